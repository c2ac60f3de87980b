/-
  The heap: its state, and its plain methods.
-/
import Derived.Test.YtfflojbgikfbmaaHA
namespace Go.Proofs.Ytfflojbgikfbmaa.Hea
open Go.Proofs.YtfflojbgikfbmaaW.Ah
open Go.Proofs.Ytfflojbgikfbmaa.Sta (U Er eU wrap_nsub wrap_pred load_u)
set_option maxRecDepth 4000
set_option linter.unusedVariables false
set_option linter.unusedSimpArgs false
attribute [local simp] T.t3 T.t4 T.t5 T.t26 T.t34 T.t39 T.t40 T.t62 T.t63 T.t70 T.t93 T.t144 Op.maxDepth List.range List.range.loop
attribute [-simp] appendAV cellsOf cellOk partOk
attribute [local simp] cellsOf_sc cellOk_sc partOk_sc cellsOf_own cellOk_own partOk_own cellsOf_osl cellOk_osl partOk_osl cellsOf_sh cellOk_sh partOk_sh cellsOf_ssl cellOk_ssl partOk_ssl cellsOf_esl cellOk_esl partOk_esl cellsOf_fn cellOk_fn partOk_fn cellsOf_omap cellOk_omap partOk_omap cellsOf_agg partOk_agg cellsOf_slv cellOk_slv partOk_slv

structure Hp where
  ws : List Int
  half : Nat
  up : Bool
  next : Nat
  on : Bool
  scan : Int

def Hp.begin (h : Hp) : Nat := if h.up then h.half + 1 else 1
def Hp.room (h : Hp) : Nat := h.begin + h.half - h.next

structure Hp.Ok (h : Hp) : Prop where
  lo : 16 ≤ h.half
  hi : h.half ≤ 16384
  len : h.ws.length = 2 * h.half + 1
  bg : h.begin ≤ h.next
  to : h.next ≤ h.begin + h.half

abbrev cells6 (i : Nat) (c : Option Nat) (h : Hp) : List AV := [.osl i 0 (2 * h.half + 1) c, I h.half, B h.up, I h.next, B h.on, I h.scan]

structure St (H : Mem) (n p i : Nat) (c : Option Nat) (h : Hp) : Prop where
  hp : H p = some (.cells (cells6 i c h) 144)
  hw : H i = some (.cells (encs eU h.ws) 40)
  lp : p < n
  li : i < n
  ne : i ≠ p
  hc : c = none ∨ c = some (2 * h.half + 1)
  ok : h.Ok

theorem St.far {H H' : Mem} {n n' p i : Nat} {c : Option Nat} {h : Hp} (s : St H n p i c h) (hn : n ≤ n') (hk : ∀ j, j < n → H' j = H j) : St H' n' p i c h :=
  ⟨by rw [hk p s.lp, s.hp], by rw [hk i s.li, s.hw], by have := s.lp; omega, by have := s.li; omega, s.ne, s.hc, s.ok⟩

structure Step (H : Mem) (n p i : Nat) (c : Option Nat) (H' : Mem) (n' : Nat) (h' : Hp) : Prop where
  st : St H' n' p i c h'
  le : n ≤ n'
  keep : ∀ j, j < n → j ≠ p → j ≠ i → H' j = H j

/-- Nothing that was there is touched. -/
def Calm (H : Mem) (n : Nat) (H' : Mem) (n' : Nat) : Prop := n ≤ n' ∧ ∀ j, j < n → H' j = H j

theorem encs_map (l : List Int) : encs eU l = l.map U := by
  induction l with
  | nil => rfl
  | cons x l ih => rw [encs_cons, ih]; rfl
theorem encs_rep (k : Nat) : encs eU (List.replicate k 0) = List.replicate k (.sc (.int .u64 0)) := by rw [encs_map]; simp

theorem new (H : Mem) (n : Nat) (m : Int) :
    RunQ Try.prog T.T 35 [I m] H n (fun r H' n' => if 16 ≤ m ∧ m ≤ 16384 then ∃ p i, r = .tup [.own p 0, Er 0] ∧ n ≤ p ∧ n ≤ i ∧ Calm H n H' n' ∧ St H' n' p i (some (2 * m.toNat + 1)) ⟨List.replicate (2 * m.toNat + 1) 0, m.toNat, false, 1, false, 0⟩
      else r = .tup [.sc (.pointer none), Er 20] ∧ Calm H n H' n') := by
  refine RunQ.ev 999 Try.func35 rfl rfl rfl rfl rfl fun C hr hn => ?_
  by_cases h1 : m < 16
  · simp [h1]
    exact hr _ _ _ (.tup [.sc (.pointer none), Er 20]) (by simp) (by rw [if_neg (by omega)]; exact ⟨rfl, Nat.le_refl _, fun _ _ => rfl⟩)
  · by_cases h2 : 16384 < m
    · simp [h1, h2]
      exact hr _ _ _ (.tup [.sc (.pointer none), Er 20]) (by simp) (by rw [if_neg (by omega)]; exact ⟨rfl, Nat.le_refl _, fun _ _ => rfl⟩)
    · obtain ⟨k, rfl⟩ := Int.eq_ofNat_of_zero_le (show 0 ≤ m by omega)
      have e1 : IntKind.i64.wrap (2 * (k : Int)) = 2 * (k : Int) := wrap64_id (by omega) (by omega)
      obtain ⟨N, hN⟩ : ∃ N, N = 2 * k + 1 := ⟨_, rfl⟩
      have e2 : IntKind.i64.wrap (2 * (k : Int) + 1) = (N : Int) := by rw [wrap64_id (by omega) (by omega)]; omega
      have e3 : (N : Int) * 8 ≤ (roomMax : Nat) := by unfold roomMax; omega
      have e4 : N ≤ roomMax := by unfold roomMax; omega
      have h1' : ¬ (k : Int) < 16 := h1
      have h2' : ¬ 16384 < (k : Int) := h2
      have h1n : ¬ k < 16 := by omega
      have h2n : ¬ 16384 < k := by omega
      simp only [Int.toNat_natCast] at hr
      simp [h1', h2', h1n, h2n, e1, e2, e3, e4]
      refine hr _ _ _ (.tup [.own (n + 1) 0, Er 0]) (by simp) ?_
      rw [if_pos ⟨by omega, by omega⟩]
      refine ⟨n + 1, n, rfl, by omega, Nat.le_refl _, ⟨by omega, fun j hj => by rw [upd_ne _ _ (by omega), upd_ne _ _ (by omega)]⟩, ⟨by simp [cells6, ← hN], ?_, by omega, by omega, by omega, .inr rfl, ⟨by simp; omega, by simp; omega, by simp, by simp [Hp.begin], by simp [Hp.begin]⟩⟩⟩
      rw [upd_ne _ _ (by omega), upd_same, ← hN]
      simp [encs_rep]

def putL (ws : List Int) (a : Nat) (l : List Int) : List Int := ws.take a ++ (l ++ ws.drop (a + l.length))

theorem putL_len {ws l : List Int} {a : Nat} (h : a + l.length ≤ ws.length) : (putL ws a l).length = ws.length := by
  simp [putL]; omega

theorem putL_put {ws l1 l2 : List Int} {a : Nat} (h : a + l1.length + l2.length ≤ ws.length) : putL (putL ws a l1) (a + l1.length) l2 = putL ws a (l1 ++ l2) := by
  unfold putL
  have e1 : (ws.take a ++ l1).length = a + l1.length := by simp; omega
  have e3 : (ws.take a ++ (l1 ++ ws.drop (a + l1.length))).take (a + l1.length) = ws.take a ++ l1 := by
    rw [← List.append_assoc, ← e1, List.take_left']; rfl
  have e4 : (ws.take a ++ (l1 ++ ws.drop (a + l1.length))).drop (a + l1.length + l2.length) = ws.drop (a + (l1 ++ l2).length) := by
    rw [← List.append_assoc, ← e1, ← List.drop_drop, List.drop_left' rfl, List.drop_drop, e1]; simp [Nat.add_assoc]
  rw [e3, e4]; simp

theorem splice_put {ws l : List Int} {a : Nat} (h : a + l.length ≤ ws.length) : splice (encs eU ws) a (encs eU l) = encs eU (putL ws a l) := by
  unfold splice putL
  rw [encs_append, encs_append]
  have e1 : (encs eU ws).take a = encs eU (ws.take a) := by simp [encs_map, List.map_take]
  have e2 : (encs eU ws).drop (a + (encs eU l).length) = encs eU (ws.drop (a + l.length)) := by simp [encs_map, List.map_drop]
  rw [e1, e2, List.append_assoc]
end Go.Proofs.Ytfflojbgikfbmaa.Hea

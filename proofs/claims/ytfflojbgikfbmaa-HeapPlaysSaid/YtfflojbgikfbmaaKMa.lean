import Derived.Test.YtfflojbgikfbmaaTab
import Derived.Test.YtfflojbgikfbmaaAhX
/-
  Words, as the heap's texts have them.
-/
namespace Go.Proofs.Ytfflojbgikfbmaa.Sta
open Go.Proofs.YtfflojbgikfbmaaW.Ah
set_option maxRecDepth 4000
set_option linter.unusedVariables false
set_option linter.unusedSimpArgs false
attribute [local simp] T.t3 T.t4 T.t5 T.t26 T.t39 T.t40 T.t41 Op.maxDepth List.range List.range.loop
attribute [-simp] appendAV

abbrev U (n : Int) : AV := .sc (.int .u64 n)
abbrev Er (n : Int) : AV := I n
abbrev eU (x : Int) : List AV := [U x]
instance : Enc eU 1 := ⟨fun _ => rfl⟩

theorem wrap_nsub {a b : Nat} (h : b ≤ a) (ha : a < 9223372036854775808) : IntKind.i64.wrap ((a : Int) - b) = ((a - b : Nat) : Int) := by rw [wrap64_id (by omega) (by omega)]; omega
theorem wrap_pred {a : Nat} (h : 1 ≤ a) (ha : a < 9223372036854775808) : IntKind.i64.wrap ((a : Int) - 1) = ((a - 1 : Nat) : Int) := by rw [wrap64_id (by omega) (by omega)]; omega
theorem tmod_nat {u : Int} {k : Nat} (h0 : 0 ≤ u) (hk : 0 < k) : ∃ a : Nat, a < k ∧ u.tmod (k : Int) = a := by
  refine ⟨u.toNat % k, Nat.mod_lt _ hk, ?_⟩
  obtain ⟨n, rfl⟩ := Int.eq_ofNat_of_zero_le h0
  simp [Int.tmod]

theorem load_u (xs : List Int) (m : Nat) (hlt : m < xs.length) : partOf T.T 40 ((encs eU xs).drop m) 0 = some (U xs[m]) := part_one (f := U) T.t40 rfl xs m hlt
end Go.Proofs.Ytfflojbgikfbmaa.Sta

/-
  Heads of records.
-/
namespace Go.Proofs.Ytfflojbgikfbmaa.Hea
open Go.Proofs.YtfflojbgikfbmaaW.Ah
open Go.Proofs.Ytfflojbgikfbmaa.Sta (U Er eU wrap_nsub wrap_pred load_u)
set_option maxRecDepth 4000
set_option linter.unusedVariables false
set_option linter.unusedSimpArgs false
attribute [local simp] T.t3 T.t4 T.t5 T.t26 T.t34 T.t39 T.t40 T.t62 T.t63 T.t70 T.t93 T.t144 Op.maxDepth List.range List.range.loop
attribute [-simp] appendAV cellsOf cellOk partOk
attribute [local simp] cellsOf_sc cellOk_sc partOk_sc cellsOf_own cellOk_own partOk_own cellsOf_osl cellOk_osl partOk_osl cellsOf_sh cellOk_sh partOk_sh cellsOf_ssl cellOk_ssl partOk_ssl cellsOf_esl cellOk_esl partOk_esl cellsOf_fn cellOk_fn partOk_fn cellsOf_omap cellOk_omap partOk_omap cellsOf_agg partOk_agg cellsOf_slv cellOk_slv partOk_slv

theorem wrapu64_id {x : Int} (h1 : 0 ≤ x) (h2 : x < 18446744073709551616) : IntKind.u64.wrap x = x := by
  simp only [IntKind.wrap, IntKind.bits, IntKind.signed]
  simp
  omega
theorem wrapu32_id {x : Int} (h1 : 0 ≤ x) (h2 : x < 4294967296) : IntKind.u32.wrap x = x := by
  simp only [IntKind.wrap, IntKind.bits, IntKind.signed]
  simp
  omega

/-- Which heads can be. -/
def Can (k t c : Int) : Prop := (k = 0 ∧ 0 ≤ t ∧ t ≤ 15 ∧ 0 < c ∧ c ≤ 6) ∨ (k = 1 ∧ t = 0 ∧ 0 ≤ c ∧ c ≤ 64)
instance (k t c : Int) : Decidable (Can k t c) := by unfold Can; infer_instance
/-- The words behind a head and a forward. -/
def body (k c : Int) : Nat := if k = 1 then (c.toNat + 7) / 8 else c.toNat
def size (k t c : Int) : Nat := if Can k t c then 2 + body k c else 0
abbrev hd (k t c : Int) : AV := .agg [I k, I t, I c]

theorem can (k t c : Int) : RunF Try.prog T.T 112 [hd k t c] (B (decide (Can k t c))) := by
  refine RunF.ev 999 Try.func112 rfl rfl rfl rfl rfl fun C hr hn => ?_
  by_cases h0 : k = 0
  · subst h0
    by_cases h1 : 0 ≤ t
    · by_cases h2 : t ≤ 15
      · by_cases h3 : 0 < c
        · by_cases h4 : c ≤ 6
          · simp [h1, h2, h3, h4]
            exact hr _ _ _ (by simp [Can, h1, h2, h3, h4])
          · simp [h1, h2, h3, h4]
            exact hr _ _ _ (by simp [Can, h1, h2, h3, h4])
        · simp [h1, h2, h3]
          exact hr _ _ _ (by simp [Can, h1, h2, h3])
      · simp [h1, h2]
        exact hr _ _ _ (by simp [Can, h1, h2])
    · simp [h1]
      exact hr _ _ _ (by simp [Can, h1])
  · by_cases h1 : k = 1
    · subst h1
      by_cases h2 : t = 0
      · subst h2
        by_cases h3 : 0 ≤ c
        · by_cases h4 : c ≤ 64
          · simp [h3, h4]
            exact hr _ _ _ (by simp [Can, h3, h4])
          · simp [h3, h4]
            exact hr _ _ _ (by simp [Can, h3, h4])
        · simp [h3]
          exact hr _ _ _ (by simp [Can, h3])
      · have hb : (t == 0) = false := by simp [h2]
        simp [hb]
        exact hr _ _ _ (by simp [Can, h2])
    · simp [h0, h1]
      exact hr _ _ _ (by simp [Can, h0, h1])

theorem canR (k t c : Int) : RunF Try.prog T.T 92 [hd k t c] (B (decide (Can k t c))) := by
  refine RunF.ev 999 Try.func92 rfl rfl rfl rfl rfl fun C hr hn => ?_
  by_cases h1 : k = 1
  · subst h1
    by_cases h2 : t = 0
    · subst h2
      by_cases h3 : 0 ≤ c
      · by_cases h4 : c ≤ 64
        · simp [h3, h4]
          exact hr _ _ _ (by simp [Can, h3, h4])
        · simp [h3, h4]
          exact hr _ _ _ (by simp [Can, h3, h4])
      · simp [h3]
        exact hr _ _ _ (by simp [Can, h3])
    · have hb : (t == 0) = false := by simp [h2]
      simp [hb]
      exact hr _ _ _ (by simp [Can, h2])
  · by_cases h0 : k = 0
    · subst h0
      by_cases h1 : 0 ≤ t
      · by_cases h2 : t ≤ 15
        · by_cases h3 : 1 ≤ c
          · by_cases h4 : c ≤ 6
            · simp [h1, h2, h3, h4]
              exact hr _ _ _ (by simp [Can, h1, h2, h4]; omega)
            · simp [h1, h2, h3, h4]
              exact hr _ _ _ (by simp [Can, h1, h2, h4])
          · simp [h1, h2, h3]
            exact hr _ _ _ (by simp [Can, h1, h2]; omega)
        · simp [h1, h2]
          exact hr _ _ _ (by simp [Can, h1, h2])
      · simp [h1]
        exact hr _ _ _ (by simp [Can, h1])
    · have hb : (k == 0) = false := by simp [h0]
      have hb1 : (k == 1) = false := by simp [h1]
      simp [h1, hb, hb1]
      exact hr _ _ _ (by simp [Can, h0, h1])

theorem bodyF (k t c : Int) (h : Can k t c) : RunF Try.prog T.T 93 [hd k t c] (I (body k c)) := by
  refine RunF.ev 999 Try.func93 rfl rfl rfl rfl rfl fun C hr hn => ?_
  by_cases h1 : k = 1
  · subst h1
    have h := h
    simp [Can] at h
    have e1 : IntKind.i64.wrap (c + 7) = c + 7 := wrap64_id (by omega) (by omega)
    simp [e1]
    refine hr _ _ _ ?_
    obtain ⟨m, rfl⟩ := Int.eq_ofNat_of_zero_le h.2.1
    have e2 : ((m : Int) + 7).fdiv (2 ^ min 3 IntKind.i64.bits) = ((m + 7) / 8 : Nat) := by
      show ((m : Int) + 7).fdiv 8 = _
      rw [Int.fdiv_eq_ediv_of_nonneg _ (by omega)]; omega
    simp [body, e2]
  · simp [h1]
    exact hr _ _ _ (by simp [body, h1]; simp [Can, h1] at h; omega)

theorem sizeF (k t c : Int) : RunF Try.prog T.T 49 [hd k t c] (I (size k t c)) := by
  refine RunF.ev 999 Try.func49 rfl rfl rfl rfl rfl fun C hr hn => ?_
  simp
  refine Stk.callF 999 (can k t c) rfl rfl rfl (by simp) rfl rfl ?_
  by_cases h : Can k t c
  · simp [h]
    refine Stk.callF 999 (bodyF k t c h) rfl rfl rfl (by simp) rfl rfl ?_
    have e1 : IntKind.i64.wrap (2 + (body k c : Int)) = ((2 + body k c : Nat) : Int) := by
      rw [wrap64_id (by omega) (by unfold body; unfold Can at h; split <;> omega)]; omega
    simp [e1]
    exact hr _ _ _ (by simp [size, h])
  · simp [h]
    exact hr _ _ _ (by simp [size, h])

theorem sizeR (k t c : Int) : RunF Try.prog T.T 36 [hd k t c] (I (size k t c)) := by
  refine RunF.ev 999 Try.func36 rfl rfl rfl rfl rfl fun C hr hn => ?_
  simp
  refine Stk.callF 999 (canR k t c) rfl rfl rfl (by simp) rfl rfl ?_
  by_cases h : Can k t c
  · by_cases h1 : k = 1
    · subst h1
      have h2 := h
      simp [Can] at h2
      obtain ⟨m, rfl⟩ := Int.eq_ofNat_of_zero_le h2.2.1
      have e1 : IntKind.i64.wrap ((m : Int) + 7) = ((m + 7 : Nat) : Int) := by rw [wrap64_id (by omega) (by omega)]; omega
      have e2 : (((m + 7 : Nat) : Int)).tdiv 8 = ((m + 7) / 8 : Nat) := rfl
      obtain ⟨q, hq⟩ : ∃ q, q = (m + 7) / 8 := ⟨_, rfl⟩
      rw [← hq] at e2
      have e3 : IntKind.i64.wrap (q : Int) = q := wrap64_id (by omega) (by omega)
      have e4 : IntKind.i64.wrap (2 + (q : Int)) = ((2 + q : Nat) : Int) := by rw [wrap64_id (by omega) (by omega)]; omega
      simp only [h, decide_true]
      simp [-Int.natCast_add, e1, e2, e3, e4]
      exact hr _ _ _ (by simp [size, h, body, hq])
    · have h2 := h
      simp [Can, h1] at h2
      have e1 : IntKind.i64.wrap (2 + c) = ((2 + c.toNat : Nat) : Int) := by rw [wrap64_id (by omega) (by omega)]; omega
      simp [h, h1, e1]
      exact hr _ _ _ (by simp [size, h, body, h1])
  · simp [h]
    exact hr _ _ _ (by simp [size, h])

theorem ptr (a : Nat) (h : a < 2147483648) : RunF Try.prog T.T 41 [.sc (.int .u32 a)] (U (2 * a : Nat)) := by
  refine RunF.ev 999 Try.func41 rfl rfl rfl rfl rfl fun C hr hn => ?_
  have e1 : IntKind.u64.wrap (a : Int) = a := wrapu64_id (by omega) (by omega)
  have e2 : IntKind.u64.wrap ((a : Int) * 2 ^ min 1 IntKind.u64.bits) = ((2 * a : Nat) : Int) := by
    show IntKind.u64.wrap ((a : Int) * 2) = _
    rw [wrapu64_id (by omega) (by omega)]; omega
  simp [e1, e2]
  exact hr _ _ _ (by simp [e2])
end Go.Proofs.Ytfflojbgikfbmaa.Hea

/-
  The heap: its state, and its plain methods.
-/
namespace Go.Proofs.Ytfflojbgikfbmaa.Hea
open Go.Proofs.YtfflojbgikfbmaaW.Ah
open Go.Proofs.Ytfflojbgikfbmaa.Sta (U Er eU wrap_nsub wrap_pred load_u)
set_option maxRecDepth 4000
set_option linter.unusedVariables false
set_option linter.unusedSimpArgs false
attribute [local simp] T.t3 T.t4 T.t5 T.t26 T.t34 T.t39 T.t40 T.t62 T.t63 T.t70 T.t93 T.t144 Op.maxDepth List.range List.range.loop
attribute [-simp] appendAV cellsOf cellOk partOk
attribute [local simp] cellsOf_sc cellOk_sc partOk_sc cellsOf_own cellOk_own partOk_own cellsOf_osl cellOk_osl partOk_osl cellsOf_sh cellOk_sh partOk_sh cellsOf_ssl cellOk_ssl partOk_ssl cellsOf_esl cellOk_esl partOk_esl cellsOf_fn cellOk_fn partOk_fn cellsOf_omap cellOk_omap partOk_omap cellsOf_agg partOk_agg cellsOf_slv cellOk_slv partOk_slv

structure Hp where
  ws : List Int
  half : Nat
  up : Bool
  next : Nat
  on : Bool
  scan : Int

def Hp.begin (h : Hp) : Nat := if h.up then h.half + 1 else 1
def Hp.room (h : Hp) : Nat := h.begin + h.half - h.next

structure Hp.Ok (h : Hp) : Prop where
  lo : 16 ≤ h.half
  hi : h.half ≤ 16384
  len : h.ws.length = 2 * h.half + 1
  bg : h.begin ≤ h.next
  to : h.next ≤ h.begin + h.half

abbrev cells6 (i : Nat) (c : Option Nat) (h : Hp) : List AV := [.osl i 0 (2 * h.half + 1) c, I h.half, B h.up, I h.next, B h.on, I h.scan]

structure St (H : Mem) (n p i : Nat) (c : Option Nat) (h : Hp) : Prop where
  hp : H p = some (.cells (cells6 i c h) 144)
  hw : H i = some (.cells (encs eU h.ws) 40)
  lp : p < n
  li : i < n
  ne : i ≠ p
  hc : c = none ∨ c = some (2 * h.half + 1)
  ok : h.Ok

theorem St.far {H H' : Mem} {n n' p i : Nat} {c : Option Nat} {h : Hp} (s : St H n p i c h) (hn : n ≤ n') (hk : ∀ j, j < n → H' j = H j) : St H' n' p i c h :=
  ⟨by rw [hk p s.lp, s.hp], by rw [hk i s.li, s.hw], by have := s.lp; omega, by have := s.li; omega, s.ne, s.hc, s.ok⟩

structure Step (H : Mem) (n p i : Nat) (c : Option Nat) (H' : Mem) (n' : Nat) (h' : Hp) : Prop where
  st : St H' n' p i c h'
  le : n ≤ n'
  keep : ∀ j, j < n → j ≠ p → j ≠ i → H' j = H j

/-- Nothing that was there is touched. -/
def Calm (H : Mem) (n : Nat) (H' : Mem) (n' : Nat) : Prop := n ≤ n' ∧ ∀ j, j < n → H' j = H j

theorem encs_map (l : List Int) : encs eU l = l.map U := by
  induction l with
  | nil => rfl
  | cons x l ih => rw [encs_cons, ih]; rfl
theorem encs_rep (k : Nat) : encs eU (List.replicate k 0) = List.replicate k (.sc (.int .u64 0)) := by rw [encs_map]; simp

theorem new (H : Mem) (n : Nat) (m : Int) :
    RunQ Try.prog T.T 35 [I m] H n (fun r H' n' => if 16 ≤ m ∧ m ≤ 16384 then ∃ p i, r = .tup [.own p 0, Er 0] ∧ n ≤ p ∧ n ≤ i ∧ Calm H n H' n' ∧ St H' n' p i (some (2 * m.toNat + 1)) ⟨List.replicate (2 * m.toNat + 1) 0, m.toNat, false, 1, false, 0⟩
      else r = .tup [.sc (.pointer none), Er 20] ∧ Calm H n H' n') := by
  refine RunQ.ev 999 Try.func35 rfl rfl rfl rfl rfl fun C hr hn => ?_
  by_cases h1 : m < 16
  · simp [h1]
    exact hr _ _ _ (.tup [.sc (.pointer none), Er 20]) (by simp) (by rw [if_neg (by omega)]; exact ⟨rfl, Nat.le_refl _, fun _ _ => rfl⟩)
  · by_cases h2 : 16384 < m
    · simp [h1, h2]
      exact hr _ _ _ (.tup [.sc (.pointer none), Er 20]) (by simp) (by rw [if_neg (by omega)]; exact ⟨rfl, Nat.le_refl _, fun _ _ => rfl⟩)
    · obtain ⟨k, rfl⟩ := Int.eq_ofNat_of_zero_le (show 0 ≤ m by omega)
      have e1 : IntKind.i64.wrap (2 * (k : Int)) = 2 * (k : Int) := wrap64_id (by omega) (by omega)
      obtain ⟨N, hN⟩ : ∃ N, N = 2 * k + 1 := ⟨_, rfl⟩
      have e2 : IntKind.i64.wrap (2 * (k : Int) + 1) = (N : Int) := by rw [wrap64_id (by omega) (by omega)]; omega
      have e3 : (N : Int) * 8 ≤ (roomMax : Nat) := by unfold roomMax; omega
      have e4 : N ≤ roomMax := by unfold roomMax; omega
      have h1' : ¬ (k : Int) < 16 := h1
      have h2' : ¬ 16384 < (k : Int) := h2
      have h1n : ¬ k < 16 := by omega
      have h2n : ¬ 16384 < k := by omega
      simp only [Int.toNat_natCast] at hr
      simp [h1', h2', h1n, h2n, e1, e2, e3, e4]
      refine hr _ _ _ (.tup [.own (n + 1) 0, Er 0]) (by simp) ?_
      rw [if_pos ⟨by omega, by omega⟩]
      refine ⟨n + 1, n, rfl, by omega, Nat.le_refl _, ⟨by omega, fun j hj => by rw [upd_ne _ _ (by omega), upd_ne _ _ (by omega)]⟩, ⟨by simp [cells6, ← hN], ?_, by omega, by omega, by omega, .inr rfl, ⟨by simp; omega, by simp; omega, by simp, by simp [Hp.begin], by simp [Hp.begin]⟩⟩⟩
      rw [upd_ne _ _ (by omega), upd_same, ← hN]
      simp [encs_rep]

def putL (ws : List Int) (a : Nat) (l : List Int) : List Int := ws.take a ++ (l ++ ws.drop (a + l.length))

theorem putL_len {ws l : List Int} {a : Nat} (h : a + l.length ≤ ws.length) : (putL ws a l).length = ws.length := by
  simp [putL]; omega

theorem putL_put {ws l1 l2 : List Int} {a : Nat} (h : a + l1.length + l2.length ≤ ws.length) : putL (putL ws a l1) (a + l1.length) l2 = putL ws a (l1 ++ l2) := by
  unfold putL
  have e1 : (ws.take a ++ l1).length = a + l1.length := by simp; omega
  have e3 : (ws.take a ++ (l1 ++ ws.drop (a + l1.length))).take (a + l1.length) = ws.take a ++ l1 := by
    rw [← List.append_assoc, ← e1, List.take_left']; rfl
  have e4 : (ws.take a ++ (l1 ++ ws.drop (a + l1.length))).drop (a + l1.length + l2.length) = ws.drop (a + (l1 ++ l2).length) := by
    rw [← List.append_assoc, ← e1, ← List.drop_drop, List.drop_left' rfl, List.drop_drop, e1]; simp [Nat.add_assoc]
  rw [e3, e4]; simp

theorem splice_put {ws l : List Int} {a : Nat} (h : a + l.length ≤ ws.length) : splice (encs eU ws) a (encs eU l) = encs eU (putL ws a l) := by
  unfold splice putL
  rw [encs_append, encs_append]
  have e1 : (encs eU ws).take a = encs eU (ws.take a) := by simp [encs_map, List.map_take]
  have e2 : (encs eU ws).drop (a + (encs eU l).length) = encs eU (ws.drop (a + l.length)) := by simp [encs_map, List.map_drop]
  rw [e1, e2, List.append_assoc]
end Go.Proofs.Ytfflojbgikfbmaa.Hea

/-
  The heap: its readers, and records that are laid.
-/
namespace Go.Proofs.Ytfflojbgikfbmaa.Hea
open Go.Proofs.YtfflojbgikfbmaaW.Ah
open Go.Proofs.Ytfflojbgikfbmaa.Sta (U Er eU wrap_nsub wrap_pred load_u)
set_option maxRecDepth 4000
set_option linter.unusedVariables false
set_option linter.unusedSimpArgs false
attribute [local simp] T.t3 T.t4 T.t5 T.t26 T.t34 T.t39 T.t40 T.t62 T.t63 T.t70 T.t93 T.t144 Op.maxDepth List.range List.range.loop
attribute [-simp] appendAV cellsOf cellOk partOk
attribute [local simp] cellsOf_sc cellOk_sc partOk_sc cellsOf_own cellOk_own partOk_own cellsOf_osl cellOk_osl partOk_osl cellsOf_sh cellOk_sh partOk_sh cellsOf_ssl cellOk_ssl partOk_ssl cellsOf_esl cellOk_esl partOk_esl cellsOf_fn cellOk_fn partOk_fn cellsOf_omap cellOk_omap partOk_omap cellsOf_agg partOk_agg cellsOf_slv cellOk_slv partOk_slv

theorem begF (H : Mem) (n i : Nat) (c : Option Nat) (h : Hp) (hh : h.half ≤ 16384) :
    RunQ Try.prog T.T 95 [.agg (cells6 i c h)] H n (fun r H' n' => r = I h.begin ∧ Calm H n H' n') := by
  refine RunQ.ev 999 Try.func95 rfl rfl rfl rfl rfl fun C hr hn => ?_
  have hw := wrap_succ h.half (by omega)
  cases hu : h.up
  · simp [hu]
    exact hr _ _ _ (I 1) (by simp) ⟨by simp [Hp.begin, hu], by omega, fun j hj => upd_ne _ _ (by omega)⟩
  · simp [hu, hw]
    exact hr _ _ _ (I (h.half + 1)) (by simp) ⟨by simp [Hp.begin, hu], by omega, fun j hj => upd_ne _ _ (by omega)⟩

theorem Hp.begin_le (h : Hp) : h.begin ≤ h.half + 1 := by unfold Hp.begin; split <;> omega

theorem beginB {H : Mem} {n p i : Nat} {c : Option Nat} {h : Hp} (hp : H p = some (.cells (cells6 i c h) 144)) (hh : h.half ≤ 16384) :
    RunQ Try.prog T.T 40 [.own p 0] H n (fun r H' n' => r = I h.begin ∧ Calm H n H' n') := by
  refine RunQ.ev 999 Try.func40 rfl rfl rfl rfl rfl fun C hr hn => ?_
  simp [hp, partOf]
  refine Stk.callS 999 (begF H n i c h hh) rfl rfl rfl (by simp) ?_
  rintro v H' n' ⟨rfl, hc⟩
  simp
  exact hr _ _ _ (I h.begin) (by simp) ⟨rfl, hc⟩

theorem begin {H : Mem} {n p i : Nat} {c : Option Nat} {h : Hp} (s : St H n p i c h) :
    RunQ Try.prog T.T 40 [.own p 0] H n (fun r H' n' => r = I h.begin ∧ Calm H n H' n') := beginB s.hp s.ok.hi

theorem next {H : Mem} {n p i : Nat} {c : Option Nat} {h : Hp} (s : St H n p i c h) :
    RunQ Try.prog T.T 39 [.own p 0] H n (fun r H' n' => r = I h.next ∧ H' = H ∧ n' = n) := by
  have hp := s.hp
  refine RunQ.ev 999 Try.func39 rfl rfl rfl rfl rfl fun C hr hn => ?_
  simp [hp]
  exact hr _ _ _ (I h.next) (by simp) ⟨rfl, rfl, rfl⟩

theorem room {H : Mem} {n p i : Nat} {c : Option Nat} {h : Hp} (s : St H n p i c h) :
    RunQ Try.prog T.T 38 [.own p 0] H n (fun r H' n' => r = I h.room ∧ Calm H n H' n') := by
  have hp := s.hp
  have hlp := s.lp
  have hbl := h.begin_le
  have hhi := s.ok.hi
  have hto := s.ok.to
  refine RunQ.ev 999 Try.func38 rfl rfl rfl rfl rfl fun C hr hn => ?_
  have hw1 : IntKind.i64.wrap ((h.begin : Int) + h.half) = ((h.begin + h.half : Nat) : Int) := by rw [wrap64_id (by omega) (by omega)]; omega
  have hw2 : IntKind.i64.wrap ((h.begin : Int) + h.half - h.next) = ((h.begin + h.half - h.next : Nat) : Int) := by rw [wrap64_id (by omega) (by omega)]; omega
  simp
  refine Stk.regionD 999 [.rd [], .mem [] n, .rd [], .rd [], .rd [], .rd [], .rd [p], .rd [], .rd [], .rd [], .rd [], .rd [], .rd [p], .rd [], .rd []] none (by kernel_rfl) (by rfl) rfl (by simp [below, *]) rfl ?_
  simp
  refine Stk.callSD 999 rfl (by rintro v H' n' ⟨rfl, g1, g2⟩ j hj _; exact g2 j hj) (begin s) rfl rfl rfl rfl (by simp) ?_
  rintro v H' n' ⟨rfl, g1, g2⟩
  have hp' : H' p = _ := (g2 p hlp).trans hp
  simp [hp', hw1, hw2]
  exact hr _ _ _ (I h.room) (by simp [Hp.room]) ⟨rfl, g1, g2⟩

theorem turn {H : Mem} {n p i : Nat} {c : Option Nat} {h : Hp} (s : St H n p i c h) :
    RunQ Try.prog T.T 42 [.own p 0] H n (fun r H' n' => r = Er 0 ∧ Step H n p i c H' n' ⟨h.ws, h.half, !h.up, (Hp.begin ⟨h.ws, h.half, !h.up, 0, false, 0⟩), false, 0⟩) := by
  have hp := s.hp
  have hlp := s.lp
  have hip := s.ne
  refine RunQ.ev 999 Try.func42 rfl rfl rfl rfl rfl fun C hr hn => ?_
  simp [hp]
  have hbb := fun (Z : Mem) (hz : Z p = some (.cells (cells6 i c ⟨h.ws, h.half, !h.up, h.next, false, 0⟩) 144)) => beginB (n := n) hz s.ok.hi
  refine Stk.callS 999 (hbb _ (by simp [cells6])) rfl rfl rfl (by simp) ?_
  rintro v H' n' ⟨rfl, g1, g2⟩
  have hp' : H' p = some (.cells [.osl i 0 (2 * h.half + 1) c, I h.half, B !h.up, I h.next, B false, I 0] 144) := by rw [g2 p hlp]; simp
  have hi' : H' i = some (.cells (encs eU h.ws) 40) := by rw [g2 i s.li]; simp [s.ne, s.hw]
  simp [hp']
  have hok := s.ok
  refine hr _ _ _ (Er 0) (by simp) ⟨rfl, ⟨by simp [cells6, Hp.begin], by rw [upd_ne _ _ hip, hi'], by omega, by have := s.li; omega, hip, s.hc, ⟨hok.lo, hok.hi, hok.len, Nat.le_refl _, Nat.le_add_right _ _⟩⟩, g1, fun j hj hjp hji => ?_⟩
  rw [upd_ne _ _ hjp, g2 j hj, upd_ne _ _ hjp, upd_ne _ _ hjp, upd_ne _ _ hjp]

theorem ptrH (a : Nat) (h : a < 2147483648) : IntKind.u32.wrap (a : Int) = a := wrapu32_id (by omega) (by omega)

/-- A slice of so many words that lies elsewhere, or is of no words. -/
def Row (H : Mem) (y : AV) (l : List Int) : Prop := (∃ j c, y = .osl j 0 l.length c ∧ ∃ zs, H j = some (.cells (encs eU l ++ zs) 40))

theorem lay {H : Mem} {n p i : Nat} {c : Option Nat} {h : Hp} (s : St H n p i c h) (hd : Int) {j : Nat} {cj : Option Nat} {l : List Int} {zs : List AV} (hj : H j = some (.cells (encs eU l ++ zs) 40)) (hjn : j < n) (hji : j ≠ i) (hjp : j ≠ p) (hfit : l.length + 2 ≤ h.room) :
    RunQ Try.prog T.T 94 [.own p 0, U hd, .osl j 0 l.length cj] H n (fun r H' n' => r = U (2 * h.next : Nat) ∧ n' = n ∧ Step H n p i c H' n' ⟨putL h.ws h.next (hd :: ((2 * h.next : Nat) : Int) :: l), h.half, h.up, h.next + (2 + l.length), h.on, h.scan⟩) := by
  have hp := s.hp
  have hlp := s.lp
  have hip := s.ne
  have hok := s.ok
  have hlen := hok.len
  have hto := hok.to
  have hhi := hok.hi
  have hbl := h.begin_le
  have hro : h.room = h.begin + h.half - h.next := rfl
  have hw1 : IntKind.u32.wrap (h.next : Int) = h.next := ptrH h.next (by omega)
  have hw2 : IntKind.i64.wrap (2 + (l.length : Int)) = ((2 + l.length : Nat) : Int) := by rw [wrap64_id (by omega) (by omega)]; omega
  obtain ⟨k, hk⟩ : ∃ k, k = 2 + l.length := ⟨_, rfl⟩
  rw [← hk] at hw2
  have hw3 : IntKind.i64.wrap ((h.next : Int) + (k : Int)) = ((h.next + k : Nat) : Int) := by rw [wrap64_id (by omega) (by omega)]; omega
  obtain ⟨e, he⟩ : ∃ e, e = h.next + k := ⟨_, rfl⟩
  rw [← he] at hw3
  have hel : e ≤ 2 * h.half + 1 := by omega
  have hek : h.next ≤ e := by omega
  refine RunQ.ev 999 Try.func94 rfl rfl rfl rfl rfl fun C hr hn => ?_
  simp [hp, hw1]
  refine Stk.callF 999 (ptr h.next (by omega)) rfl rfl rfl (by simp) rfl rfl ?_
  have hwo := s.hw
  have hc := s.hc
  have hlt : h.next < e := by omega
  have hkn : e - h.next = k := by omega
  have heli : (e : Int) ≤ 2 * (h.half : Int) + 1 := by omega
  have h0k : (0 : Int) < k := by omega
  have h1k : (1 : Int) < k := by omega
  have h0kn : 0 < k := by omega
  have h1kn : 1 < k := by omega
  have h2kn : 2 ≤ k := by omega
  obtain ⟨w, hw⟩ : ∃ w : Int, w = ((2 * h.next : Nat) : Int) := ⟨_, rfl⟩
  rw [← hw]
  have s1 : List.take h.next (encs eU h.ws) ++ U hd :: List.drop (h.next + 1) (encs eU h.ws) = encs eU (putL h.ws h.next [hd]) := by
    have := splice_put (ws := h.ws) (l := [hd]) (a := h.next) (by simp; omega)
    rw [show encs eU [hd] = [U hd] from rfl] at this; simpa [splice] using this
  obtain ⟨ws1, hws1⟩ : ∃ ws1, ws1 = putL h.ws h.next [hd] := ⟨_, rfl⟩
  have hl1 : ws1.length = 2 * h.half + 1 := by rw [hws1, putL_len (by simp; omega), hlen]
  have s2 : List.take (h.next + 1) (encs eU ws1) ++ U w :: List.drop (h.next + 1 + 1) (encs eU ws1) = encs eU (putL ws1 (h.next + 1) [w]) := by
    have := splice_put (ws := ws1) (l := [w]) (a := h.next + 1) (by simp; omega)
    rw [show encs eU [w] = [U w] from rfl] at this; simpa [splice] using this
  obtain ⟨ws2, hws2⟩ : ∃ ws2, ws2 = putL ws1 (h.next + 1) [w] := ⟨_, rfl⟩
  have hl2 : ws2.length = 2 * h.half + 1 := by rw [hws2, putL_len (by simp; omega), hl1]
  have s3 : List.take (h.next + 2) (encs eU ws2) ++ (encs eU l ++ List.drop (h.next + 2 + l.length) (encs eU ws2)) = encs eU (putL ws2 (h.next + 2) l) := by
    have := splice_put (ws := ws2) (l := l) (a := h.next + 2) (by omega)
    rw [← this]; simp [splice, encs_map]
  have hfin : putL ws2 (h.next + 2) l = putL h.ws h.next (hd :: w :: l) := by
    have a1 : ws2 = putL h.ws h.next ([hd] ++ [w]) := by
      rw [hws2, hws1]; exact putL_put (l1 := [hd]) (l2 := [w]) (by simp; omega)
    rw [a1]; exact putL_put (l1 := [hd] ++ [w]) (l2 := l) (by simp; omega)
  rw [← hws1] at s1
  rw [← hws2] at s2
  rw [hfin] at s3
  have q1 : h.next ≤ 2 * h.half := by omega
  have q2 : h.next + 1 ≤ 2 * h.half := by omega
  have q3 : h.next + 1 + 1 ≤ 2 * h.half + 1 := by omega
  have h2ki : (2 : Int) ≤ k := by omega
  have q4 : h.next + 2 + l.length ≤ 2 * h.half + 1 := by omega
  have hk2 : k - 2 = l.length := by omega
  have ht : List.take l.length (encs eU l ++ zs) = encs eU l := by rw [List.take_left' (by simp [length_encs])]
  have hall : ∀ x ∈ encs eU l, cellOk x = true := by
    intro x hx
    rw [encs_map, List.mem_map] at hx
    obtain ⟨y, _, rfl⟩ := hx; rfl
  have hallt : (∀ (x : AV), x ∈ encs eU l → cellOk x = true) = True := eq_true hall
  have ht2 : List.take l.length (encs eU l) = encs eU l := by rw [List.take_of_length_le (by simp [length_encs])]
  have hlz : l.length ≤ l.length + zs.length := Nat.le_add_right _ _
  have hww : (2 * (h.next : Int)) = w := by rw [hw]; simp
  have hnx : IntKind.i64.wrap ((h.next : Int) + k) = (e : Int) := hw3
  have fin : ∀ (t : Nat → AV) (H2 : Mem), t 6 = U w → H2 p = some (.cells [.osl i 0 (2 * h.half + 1) c, I h.half, B h.up, I e, B h.on, I h.scan] 144) → H2 i = some (.cells (encs eU (putL h.ws h.next (hd :: w :: l))) 40) → (∀ x, x ≠ p → x ≠ i → H2 x = H x) → C .ret t H2 n := by
    intro t H2 t6 g1 g2 g3
    refine hr _ _ _ (U w) (by simp [t6]) ⟨by rw [hw], rfl, ⟨by rw [g1, ← hk, he], by rw [g2, hw], hlp, s.li, hip, s.hc, ⟨hok.lo, hok.hi, ?_, ?_, ?_⟩⟩, Nat.le_refl _, fun x hx hxp hxi => g3 x hxp hxi⟩
    · simp only; rw [putL_len (by simp; omega), hlen]
    · have := hok.bg; show h.begin ≤ h.next + (2 + l.length); omega
    · show h.next + (2 + l.length) ≤ h.begin + h.half; omega
  clear hr hn
  by_cases hl0 : l = []
  · subst hl0
    have hk2' : k = 2 := by simpa using hk
    have hw2' : IntKind.i64.wrap 2 = (k : Int) := by rw [hk2']; decide
    have h2lt : ¬ 2 < k := by omega
    have hfin0 : putL h.ws h.next [hd, w] = ws2 := by rw [← hfin]; unfold putL; simp
    rcases hc with rfl | rfl
    all_goals simp [hp, hw2', hw3, natOk, hwo, hlen, hel, hek, hlt, hkn, heli, h0k, h1k, h0kn, h1kn, h2kn, h2ki, h2lt, s1, s2, hl1, hl2, q1, q2, q3, hj, hji, hip, Ne.symm hip, hjp]
    all_goals refine fin _ _ (by simp [hww]) (by simp [Ne.symm hip]) (by rw [upd_ne _ _ hip, upd_same]; rw [hfin0]) (fun x hx hx' => by simp [hx, hx'])
  · have h2lt : 2 < k := by have := List.length_pos_iff.2 hl0; omega
    rcases hc with rfl | rfl
    all_goals simp [hp, hw2, hw3, natOk, hwo, hlen, hel, hek, hlt, hkn, heli, h0k, h1k, h0kn, h1kn, h2kn, h2ki, h2lt, hk2, s1, s2, hl1, hl2, q1, q2, q3, hj, hji, hip, Ne.symm hip, hjp, ht, ht2, hlz, hallt, q4, s3, length_encs]
    all_goals refine fin _ _ (by simp [hww]) (by simp [Ne.symm hip]) (by rw [upd_ne _ _ hip, upd_same]) (fun x hx hx' => by simp [hx, hx'])
end Go.Proofs.Ytfflojbgikfbmaa.Hea

/-
  The heap: heads as words, and Put.
-/
namespace Go.Proofs.Ytfflojbgikfbmaa.Hea
open Go.Proofs.YtfflojbgikfbmaaW.Ah
open Go.Proofs.Ytfflojbgikfbmaa.Sta (U Er eU wrap_nsub wrap_pred load_u)
set_option maxRecDepth 4000
set_option linter.unusedVariables false
set_option linter.unusedSimpArgs false
attribute [local simp] T.t3 T.t4 T.t5 T.t26 T.t34 T.t39 T.t40 T.t62 T.t63 T.t70 T.t93 T.t144 Op.maxDepth List.range List.range.loop
attribute [-simp] appendAV cellsOf cellOk partOk
attribute [local simp] cellsOf_sc cellOk_sc partOk_sc cellsOf_own cellOk_own partOk_own cellsOf_osl cellOk_osl partOk_osl cellsOf_sh cellOk_sh partOk_sh cellsOf_ssl cellOk_ssl partOk_ssl cellsOf_esl cellOk_esl partOk_esl cellsOf_fn cellOk_fn partOk_fn cellsOf_omap cellOk_omap partOk_omap cellsOf_agg partOk_agg cellsOf_slv cellOk_slv partOk_slv

/-- A head's word. -/
def hv (k t c : Int) : Int := k * 65536 + t * 256 + c

theorem or_add {a b q m : Nat} (ha : a = 2 ^ m * q) (hb : b < 2 ^ m) (h : a + b < 4611686018427387904) :
    IntKind.i64.wrap ((a % 2 ^ IntKind.i64.bits ||| b % 2 ^ IntKind.i64.bits : Nat) : Int) = ((a + b : Nat) : Int) := by
  have e1 : a % 2 ^ IntKind.i64.bits = a := Nat.mod_eq_of_lt (by show a < 18446744073709551616; omega)
  have e2 : b % 2 ^ IntKind.i64.bits = b := Nat.mod_eq_of_lt (by show b < 18446744073709551616; omega)
  rw [e1, e2]
  have e3 : a ||| b = a + b := by rw [ha]; exact (Nat.two_pow_add_eq_or_of_lt hb q).symm
  rw [e3, wrap64_id (by omega) (by omega)]

theorem headF (k t c : Int) : RunF Try.prog T.T 55 [hd k t c] (.tup [U (if Can k t c then hv k t c else 0), B (decide (Can k t c))]) := by
  refine RunF.ev 999 Try.func55 rfl rfl rfl rfl rfl fun C hr hn => ?_
  simp
  refine Stk.callF 999 (can k t c) rfl rfl rfl (by simp) rfl rfl ?_
  by_cases h : Can k t c
  · have hb : ∃ K T' C' : Nat, k = K ∧ t = T' ∧ c = C' ∧ K ≤ 1 ∧ T' ≤ 15 ∧ C' ≤ 64 := by
      refine ⟨k.toNat, t.toNat, c.toNat, ?_⟩
      unfold Can at h; omega
    obtain ⟨K, T', C', rfl, rfl, rfl, hK, hT, hC⟩ := hb
    obtain ⟨a, ha⟩ : ∃ a, a = 2 ^ 16 * K := ⟨_, rfl⟩
    obtain ⟨b, hb⟩ : ∃ b, b = 256 * T' := ⟨_, rfl⟩
    obtain ⟨d, hd⟩ : ∃ d, d = a + b := ⟨_, rfl⟩
    obtain ⟨g, hg⟩ : ∃ g, g = d + C' := ⟨_, rfl⟩
    have e1 : IntKind.i64.wrap ((K : Int) * 65536) = (a : Int) := by rw [wrap64_id (by omega) (by omega)]; omega
    have e2 : IntKind.i64.wrap ((T' : Int) * 256) = (b : Int) := by rw [wrap64_id (by omega) (by omega)]; omega
    have o1 := or_add (a := a) (b := b) (q := K) (m := 16) ha (by omega) (by omega)
    have o2 := or_add (a := d) (b := C') (q := 256 * K + T') (m := 8) (by omega) (by omega) (by omega)
    rw [← hd] at o1
    rw [← hg] at o2
    have e3 : IntKind.u64.wrap (g : Int) = (g : Int) := wrapu64_id (by omega) (by omega)
    have e4 : hv K T' C' = (g : Int) := by unfold hv; omega
    simp [h, e1, e2, o1, o2, e3]
    exact hr _ _ _ (by simp [h, e4])
  · simp [h]
    exact hr _ _ _ (by simp [h])

theorem size_can {k t c : Int} (h : Can k t c) : size k t c = 2 + body k c := by simp [size, h]

theorem body_le {k t c : Int} (h : Can k t c) : body k c ≤ 8 := by
  unfold Can at h; unfold body; split <;> omega

theorem put {H : Mem} {n p i : Nat} {cc : Option Nat} {h' : Hp} (s : St H n p i cc h') (k t c : Int) {j : Nat} {cj : Option Nat} {l : List Int} {zs : List AV} (hj : H j = some (.cells (encs eU l ++ zs) 40)) (hjn : j < n) (hji : j ≠ i) (hjp : j ≠ p) :
    RunQ Try.prog T.T 37 [.own p 0, hd k t c, .osl j 0 l.length cj] H n (fun r H' n' =>
      if Can k t c ∧ l.length = body k c ∧ size k t c ≤ h'.room then r = .tup [U (2 * h'.next : Nat), Er 0] ∧ Step H n p i cc H' n' ⟨putL h'.ws h'.next (hv k t c :: ((2 * h'.next : Nat) : Int) :: l), h'.half, h'.up, h'.next + size k t c, h'.on, h'.scan⟩
      else r = .tup [U 0, Er (if Can k t c ∧ l.length = body k c then 21 else 19)] ∧ Calm H n H' n') := by
  have hlp := s.lp
  refine RunQ.ev 999 Try.func37 rfl rfl rfl rfl rfl fun C hr hn => ?_
  simp
  refine Stk.callF 999 (headF k t c) rfl rfl rfl (by simp) rfl rfl ?_
  obtain ⟨H1, hH1⟩ : ∃ H1 : Mem, H1 = upd H n (some (.cells [I k, I t, I c] 34)) := ⟨_, rfl⟩
  have hc1 : Calm H n H1 (n + 1) := ⟨by omega, fun j hj => by rw [hH1, upd_ne _ _ (by omega)]⟩
  have s1 : St H1 (n + 1) p i cc h' := s.far hc1.1 hc1.2
  have h1n : H1 n = some (.cells [I k, I t, I c] 34) := by rw [hH1, upd_same]
  by_cases h : Can k t c
  · have hsz := size_can h
    have hbl := body_le h
    simp [h]
    rw [← hH1]
    refine Stk.callF 999 (bodyF k t c h) rfl rfl rfl (by simp) rfl rfl ?_
    by_cases hlb : l.length = body k c
    · have hlb' : (l.length : Int) = (body k c : Int) := by omega
      have hlb2 : ((l.length : Int) != (body k c : Int)) = false := by simp [hlb]
      have hlb3 : ((body k c : Int) != (body k c : Int)) = false := by simp
      simp [hlb2, h1n, partOf]
      refine Stk.callF 999 (sizeF k t c) rfl rfl rfl (by simp) rfl rfl ?_
      simp
      refine Stk.callS 999 (room s1) rfl rfl rfl (by simp) ?_
      rintro v H2 n2 ⟨rfl, g1, g2⟩
      have hc2 : Calm H n H2 n2 := ⟨by omega, fun j hj => by rw [g2 j (by omega), hc1.2 j hj]⟩
      by_cases hrm : size k t c ≤ h'.room
      · have hrm' : ¬ h'.room < size k t c := by omega
        simp [hrm']
        refine Stk.callS 999 (lay (s.far hc2.1 hc2.2) (hv k t c) (cj := cj) (by rw [hc2.2 j hjn]; exact hj) (by have := hc2.1; omega) hji hjp (by rw [hlb]; omega)) rfl rfl rfl (by simp [h]) ?_
        rintro v H3 n3 ⟨rfl, rfl, st⟩
        simp
        refine hr _ _ _ (.tup [U (2 * h'.next : Nat), Er 0]) (by simp) ?_
        rw [if_pos ⟨h, hlb, hrm⟩]
        refine ⟨rfl, ?_, by have := hc2.1; omega, fun j hj hjp hji => by rw [st.keep j (by have := hc2.1; omega) hjp hji, hc2.2 j hj]⟩
        rw [hsz, ← hlb]; exact st.st
      · have hrm' : h'.room < size k t c := by omega
        simp [hrm']
        refine hr _ _ _ (.tup [U 0, Er 21]) (by simp) ?_
        rw [if_neg (fun h => hrm h.2.2), if_pos ⟨h, hlb⟩]
        exact ⟨rfl, hc2⟩
    · have hlb2 : ((l.length : Int) != (body k c : Int)) = true := by simp; omega
      simp [hlb2]
      refine hr _ _ _ (.tup [U 0, Er 19]) (by simp) ?_
      rw [if_neg (fun h => hlb h.2.1), if_neg (fun h => hlb h.2)]
      exact ⟨rfl, hc1⟩
  · simp [h]
    exact hr _ _ _ (.tup [U 0, Er 19]) (by simp) (by simp [h]; rw [← hH1]; exact hc1)
end Go.Proofs.Ytfflojbgikfbmaa.Hea

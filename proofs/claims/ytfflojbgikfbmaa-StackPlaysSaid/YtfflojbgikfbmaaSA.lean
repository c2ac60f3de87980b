/-
  The document's own stack: its state, and its readers.
-/
import Derived.Test.YtfflojbgikfbmaaStkG
import Derived.Test.YtfflojbgikfbmaaAhC
namespace Go.Proofs.Ytfflojbgikfbmaa.Sta
open Go.Proofs.YtfflojbgikfbmaaW.Ah
set_option maxRecDepth 4000
set_option linter.unusedVariables false
set_option linter.unusedSimpArgs false
attribute [local simp] T.t3 T.t4 T.t5 T.t26 T.t39 T.t40 T.t41 T.t47 T.t49 T.t73 T.t77 T.t79 T.t128 T.t130 T.t132 T.t135 T.t150 Op.maxDepth List.range List.range.loop
attribute [-simp] appendAV cellsOf cellOk partOk
attribute [local simp] cellsOf_sc cellOk_sc partOk_sc cellsOf_own cellOk_own partOk_own cellsOf_osl cellOk_osl partOk_osl cellsOf_sh cellOk_sh partOk_sh cellsOf_ssl cellOk_ssl partOk_ssl cellsOf_esl cellOk_esl partOk_esl cellsOf_fn cellOk_fn partOk_fn cellsOf_omap cellOk_omap partOk_omap cellsOf_agg partOk_agg cellsOf_slv cellOk_slv partOk_slv

structure Rt (H : Mem) (n p : Nat) (s : Sk) (ia ib : Option Nat) : Prop where
  hp : H p = some (.cells [slv ia s.slots.length, slv ib s.frames.length, I s.peak, I s.most] 150)
  ha : Own H 40 eU ia s.slots
  hb : Own H 79 eF ib s.frames
  lp : p < n
  la : ∀ i, ia = some i → i < n ∧ i ≠ p
  lb : ∀ i, ib = some i → i < n ∧ i ≠ p
  ab : ∀ i, ia = some i → ib = some i → False
  ok : s.Ok

structure RStep (H : Mem) (n p : Nat) (ia ib : Option Nat) (H' : Mem) (n' : Nat) (s' : Sk) (ia' ib' : Option Nat) : Prop where
  st : Rt H' n' p s' ia' ib'
  le : n ≤ n'
  keep : ∀ j, j < n → j ≠ p → ia ≠ some j → ib ≠ some j → H' j = H j
  fa : ∀ i, ia' = some i → ia = some i ∨ n ≤ i
  fb : ∀ i, ib' = some i → ib = some i ∨ n ≤ i

theorem Rt.far {H H' : Mem} {n n' p : Nat} {s : Sk} {ia ib : Option Nat} (h : Rt H n p s ia ib) (hn : n ≤ n') (hk : ∀ j, j < n → H' j = H j) : Rt H' n' p s ia ib :=
  ⟨by rw [hk p h.lp, h.hp], h.ha.mono fun i hi => hk i (h.la i hi).1, h.hb.mono fun i hi => hk i (h.lb i hi).1, by have := h.lp; omega, fun i hi => ⟨by have := (h.la i hi).1; omega, (h.la i hi).2⟩, fun i hi => ⟨by have := (h.lb i hi).1; omega, (h.lb i hi).2⟩, h.ab, h.ok⟩

theorem encs_okU (l : List Int) : (encs eU l).all cellOk = true := by
  rw [List.all_eq_true]
  intro x hx
  simp only [encs, List.mem_flatMap] at hx
  obtain ⟨y, _, hy⟩ := hx
  simp at hy; subst hy; rfl

theorem elems_slc {H : Mem} {o : Option Nat} {xs : List Int} {c : Option Nat} (h : Own H 40 eU o xs) : elemsOf H 1 (slc o xs.length c) = some (xs.length, encs eU xs) := by
  cases o with
  | none => have h0 : xs = [] := h; subst h0; rfl
  | some i =>
    obtain ⟨ys, h⟩ := h
    simp only [slc, elemsOf, h]
    rw [if_pos (by simp [length_encs])]
    simp only [List.drop_zero]
    rw [show xs.length * 1 = (encs eU xs).length by simp [length_encs], List.take_left' rfl]

theorem words {H : Mem} {n : Nat} {o : Option Nat} {xs : List Int} {c : Option Nat} (h : Own H 40 eU o xs) (hl : xs.length ≤ 65536) :
    RunQ Try.prog T.T 111 [slc o xs.length c] H n (fun r H' n' => ∃ o', r = slv o' xs.length ∧ Own H' 40 eU o' xs ∧ n ≤ n' ∧ (∀ i, o' = some i → n ≤ i ∧ i < n') ∧ ∀ j, j < n → H' j = H j) := by
  obtain ⟨o', H', n', e1, o1, le1, f1, k1⟩ := append_own (e := eU) (z := 1) T.t39 rfl T.t40 rfl (by decide) rfl (by decide) (H := H) (n := n) (o := none) (xs := []) rfl (fun i e => by cases e) (y := slc o xs.length c) xs (elems_slc h) (encs_okU xs) (by simp [roomMax]; omega) (by simp [roomMax]; omega)
  simp at e1 o1
  refine RunQ.ev 999 Try.func111 rfl rfl rfl rfl rfl fun C hr hn => ?_
  simp [e1]
  exact hr _ _ _ (slv o' xs.length) (by simp) ⟨o', rfl, o1, le1, fun i hi => ⟨(f1 i hi).1.resolve_left (fun e => by cases e), (f1 i hi).2⟩, fun j hj => k1 j hj (fun e => by cases e)⟩

/-- The top frame. -/
def Sk.top (s : Sk) : AV := match s.frames.getLast? with
  | some f => .tup [.agg (eF f), B true]
  | none => .tup [.agg [I 0, I 0, I 0], B false]

theorem rnew (H : Mem) (n : Nat) (m : Int) :
    RunQ Try.prog T.T 43 [I m] H n (fun r H' n' => if 0 ≤ m ∧ m ≤ 65536 then ∃ p, r = .tup [.own p 0, I 0] ∧ n ≤ p ∧ p < n' ∧ (∀ j, j < n → H' j = H j) ∧ Rt H' n' p ⟨[], [], m.toNat, 0⟩ none none
      else r = .tup [.sc (.pointer none), I 20] ∧ H' = H ∧ n' = n) := by
  refine RunQ.ev 999 Try.func43 rfl rfl rfl rfl rfl fun C hr hn => ?_
  by_cases h0 : m < 0
  · simp [h0]
    exact hr _ _ _ (.tup [.sc (.pointer none), I 20]) (by simp) (by rw [if_neg (by omega)]; exact ⟨rfl, rfl, rfl⟩)
  · by_cases h1 : 65536 < m
    · simp [h0, h1]
      exact hr _ _ _ (.tup [.sc (.pointer none), I 20]) (by simp) (by rw [if_neg (by omega)]; exact ⟨rfl, rfl, rfl⟩)
    · simp [h0, h1]
      refine hr _ _ _ (.tup [.own n 0, I 0]) (by simp) ?_
      rw [if_pos ⟨by omega, by omega⟩]
      refine ⟨n, rfl, Nat.le_refl _, by omega, fun j hj => upd_ne _ _ (by omega), ⟨?_, rfl, rfl, by omega, fun i e => (by cases e), fun i e => (by cases e), fun i e => (by cases e), ⟨by simp; omega, by simp, by simp, by simp, .nil _⟩⟩⟩
      simp [upd, Int.toNat_of_nonneg (show 0 ≤ m by omega)]

theorem frameR {H : Mem} {n p : Nat} {s : Sk} {ia ib : Option Nat} (h : Rt H n p s ia ib) :
    RunQ Try.prog T.T 45 [.own p 0] H n (fun r H' n' => r = s.top ∧ n ≤ n' ∧ ∀ j, j < n → H' j = H j) := by
  have hp := h.hp
  have hlp := h.lp
  have hok := h.ok
  have hpn : ¬ p = n := by omega
  have hp1 : p < n + 1 := by omega
  refine RunQ.ev 999 Try.func45 rfl rfl rfl rfl rfl fun C hr hn => ?_
  have fin0 : s.frames = [] → ∀ (t : Nat → AV) H2, t 2 = .own n 0 → t 3 = B false → H2 n = some (.cells [I 0, I 0, I 0] 79) → (∀ j, j < n → H2 j = H j) → C .ret t H2 (n + 1) := by
    intro h0 t H2 t2 t3 g1 g2
    exact hr _ _ _ (.tup [.agg [I 0, I 0, I 0], B false]) (by simp [t2, t3, g1, partOf]) ⟨by simp [Sk.top, h0], by omega, g2⟩
  cases ib with
  | none =>
    have h0 : s.frames = [] := h.hb
    simp [hp, hpn]
    exact fin0 h0 _ _ (by simp) (by simp) (by simp) (fun j hj => by simp [show j ≠ n by omega])
  | some b =>
    by_cases h0 : s.frames = []
    · simp [hp, hpn, h0]
      exact fin0 h0 _ _ (by simp) (by simp) (by simp) (fun j hj => by simp [show j ≠ n by omega])
    · have hpos : 0 < s.frames.length := List.length_pos_iff.2 h0
      have hb0 : ((s.frames.length : Int) == 0) = false := by simp [h0]
      have hk : s.frames.length - 1 < s.frames.length := by omega
      obtain ⟨ys, hb⟩ := h.hb
      have hbn := (h.lb b rfl).1
      have hbn' : ¬ b = n := by omega
      have hb1 : b < n + 1 := by omega
      have hpo := part_own (e := eF) (z := 3) T.t79 rfl rfl s.frames ys (s.frames.length - 1) hk
      obtain ⟨f, hf⟩ : ∃ f, f = s.frames[s.frames.length - 1] := ⟨_, rfl⟩
      rw [← hf] at hpo
      have htop : s.top = .tup [.agg (eF f), B true] := by
        unfold Sk.top
        rw [List.getLast?_eq_getElem?, List.getElem?_eq_getElem hk, ← hf]
      have hw := wrap_pred (a := s.frames.length) (by omega) (by have := hok.frames; omega)
      simp [hp, hpn, hb0, h0]
      refine Stk.regionD 999 [.rd [], .rd [], .rd [], .rd [], .rd [p], .rd [], .rd [], .rd [], .rd [], .rd [p], .rd [], .rd [], .rd [], .rd [b], .mem [n] (n + 1), .rd []] none (by kernel_rfl) (by rfl) rfl (by simp [below, *]) rfl ?_
      simp [hp, hpn, hw, hb, hbn', hpo, hpos, h0, hk]
      refine ⟨fun j hj hj' e => absurd e hj', ?_⟩
      exact hr _ _ _ (.tup [.agg (eF f), B true]) (by simp [partOf]) ⟨htop.symm, by omega, fun j hj => by simp [show j ≠ n by omega]⟩

theorem ownR {H : Mem} {n p : Nat} {s : Sk} {ia ib : Option Nat} (h : Rt H n p s ia ib) :
    RunQ Try.prog T.T 141 [.own p 0] H n (fun r H' n' => r = I ((s.slots.length - s.base : Nat) : Int) ∧ n ≤ n' ∧ ∀ j, j < n → H' j = H j) := by
  have hlp := h.lp
  have hok := h.ok
  have hle := hok.base_le
  have hsl := hok.slots
  have hmo := hok.most
  refine RunQ.ev 999 Try.func141 rfl rfl rfl rfl rfl fun C hr hn => ?_
  simp
  refine Stk.callS 999 (frameR h) rfl rfl rfl (by simp) ?_
  rintro v H1 n1 ⟨rfl, l1, g1⟩
  have hp1 : H1 p = _ := (g1 p hlp).trans h.hp
  have hpn : ¬ p = n1 := by omega
  have hpl : p < n1 + 1 := by omega
  obtain ⟨f, bb, htop, hbase⟩ : ∃ (f : Int × Int × Nat) (bb : Bool), s.top = .tup [.agg [I f.1, I f.2.1, I f.2.2], B bb] ∧ f.2.2 = s.base := by
    unfold Sk.top Sk.base
    cases s.frames.getLast? with
    | some f => exact ⟨f, true, rfl, rfl⟩
    | none => exact ⟨(0, 0, 0), false, rfl, rfl⟩
  have hw : IntKind.i64.wrap ((s.slots.length : Int) - f.2.2) = ((s.slots.length - s.base : Nat) : Int) := by rw [hbase]; exact wrap_nsub hle (by omega)
  rw [htop]
  cases ia with
  | none =>
    have h0 : s.slots = [] := h.ha
    have hl0 : s.slots.length = 0 := by rw [h0]; rfl
    rw [hl0] at hw hp1
    simp
    refine Stk.regionD 999 [.rd [], .rd [], .rd [], .rd [], .rd [p], .rd [], .rd [], .rd [n1], .rd [], .rd []] none (by kernel_rfl) (by rfl) rfl (by simp [below]) rfl ?_
    simp at hw hp1
    simp [hp1, hpn, hw]
    exact hr _ _ _ (I ((0 - s.base : Nat) : Int)) (by simp [hw]) ⟨by rw [hl0], by omega, fun j hj => by simp [show j ≠ n1 by omega, g1 j hj]⟩
  | some a =>
    simp at hp1
    simp
    refine Stk.regionD 999 [.rd [], .rd [], .rd [], .rd [], .rd [p], .rd [], .rd [], .rd [n1], .rd [], .rd []] none (by kernel_rfl) (by rfl) rfl (by simp [below]) rfl ?_
    simp [hp1, hpn, hw]
    exact hr _ _ _ (I ((s.slots.length - s.base : Nat) : Int)) (by simp) ⟨rfl, by omega, fun j hj => by simp [show j ≠ n1 by omega, g1 j hj]⟩
end Go.Proofs.Ytfflojbgikfbmaa.Sta

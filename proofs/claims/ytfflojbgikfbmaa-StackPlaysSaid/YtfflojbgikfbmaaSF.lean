/-
  The document's own stack: Jump, Moved, Cut.
-/
import Derived.Test.YtfflojbgikfbmaaSE
namespace Go.Proofs.Ytfflojbgikfbmaa.Sta
open Go.Proofs.YtfflojbgikfbmaaW.Ah
set_option maxRecDepth 4000
set_option linter.unusedVariables false
set_option linter.unusedSimpArgs false
attribute [local simp] T.t3 T.t4 T.t5 T.t26 T.t39 T.t40 T.t41 T.t47 T.t49 T.t73 T.t77 T.t79 T.t128 T.t130 T.t132 T.t135 T.t150 Op.maxDepth List.range List.range.loop
attribute [-simp] appendAV cellsOf cellOk partOk
attribute [local simp] cellsOf_sc cellOk_sc partOk_sc cellsOf_own cellOk_own partOk_own cellsOf_osl cellOk_osl partOk_osl cellsOf_sh cellOk_sh partOk_sh cellsOf_ssl cellOk_ssl partOk_ssl cellsOf_esl cellOk_esl partOk_esl cellsOf_fn cellOk_fn partOk_fn cellsOf_omap cellOk_omap partOk_omap cellsOf_agg partOk_agg cellsOf_slv cellOk_slv partOk_slv

theorem Rising.set {fs : List (Int × Int × Nat)} {n : Nat} (h : Rising fs n) (m : Nat) (pc : Int) (hm : m + 1 = fs.length) : Rising (fs.set m ((fs.getD m (0, 0, 0)).1, pc, (fs.getD m (0, 0, 0)).2.2)) n := by
  cases h with
  | nil => simp at hm
  | @snoc gs f k h1 h2 =>
    have hg : m = gs.length := by simp at hm; omega
    subst hg
    simp
    exact .snoc h1 h2

/-- The frames with another place to go on. -/
def Sk.jumped (s : Sk) (pc : Int) : List (Int × Int × Nat) := s.frames.set (s.frames.length - 1) ((s.frames.getD (s.frames.length - 1) (0, 0, 0)).1, pc, (s.frames.getD (s.frames.length - 1) (0, 0, 0)).2.2)

theorem splice_pc (fs : List (Int × Int × Nat)) (ys : List AV) (k : Nat) (hk : k < fs.length) (x : Int) :
    List.take (k * 3 + 1) (encs eF fs ++ ys) ++ I x :: List.drop (k * 3 + 1 + 1) (encs eF fs ++ ys) = encs eF (fs.set k ((fs[k]).1, x, (fs[k]).2.2)) ++ ys := by
  obtain ⟨A, hA⟩ : ∃ A, A = encs eF (fs.take k) := ⟨_, rfl⟩
  have hl : A.length = k * 3 := by rw [hA, length_encs, List.length_take, Nat.min_eq_left (by omega)]
  have e : encs eF fs ++ ys = A ++ (I (fs[k]).1 :: I (fs[k]).2.1 :: I (fs[k]).2.2 :: (encs eF (fs.drop (k + 1)) ++ ys)) := by
    conv => lhs; rw [← List.take_append_drop k fs, List.drop_eq_getElem_cons hk]
    rw [encs_append, encs_cons, hA]
    simp
  rw [e, List.set_eq_take_append_cons_drop, if_pos hk, encs_append, encs_cons, ← hA, List.take_append, List.drop_append, List.take_of_length_le (show A.length ≤ k * 3 + 1 by omega), List.drop_of_length_le (show A.length ≤ k * 3 + 1 + 1 by omega), hl, show k * 3 + 1 - k * 3 = 1 by omega, show k * 3 + 1 + 1 - k * 3 = 2 by omega]
  simp

theorem jumpR {H : Mem} {n p : Nat} {s : Sk} {ia ib : Option Nat} (h : Rt H n p s ia ib) (pc : Int) :
    RunQ Try.prog T.T 108 [.own p 0, I pc] H n (fun r H' n' => if s.frames ≠ []
      then r = I 0 ∧ ∃ ia' ib', RStep H n p ia ib H' n' ⟨s.slots, s.jumped pc, s.most, s.peak⟩ ia' ib'
      else r = I 24 ∧ n ≤ n' ∧ ∀ j, j < n → H' j = H j) := by
  have hlp := h.lp
  have hp := h.hp
  have hok := h.ok
  have hfr := hok.frames
  refine RunQ.ev 999 Try.func108 rfl rfl rfl rfl rfl fun C hr hn => ?_
  cases ib with
  | none =>
    have h0 : s.frames = [] := h.hb
    have hl0 : s.frames.length = 0 := by rw [h0]; rfl
    rw [hl0] at hp
    simp at hp
    simp [hp]
    exact hr _ _ _ (I 24) (by simp) (by rw [if_neg (by simp [h0])]; exact ⟨rfl, Nat.le_refl _, fun _ _ => rfl⟩)
  | some b =>
    simp at hp
    by_cases h0 : s.frames = []
    · have hl0 : s.frames.length = 0 := by rw [h0]; rfl
      simp [hp, hl0, h0]
      exact hr _ _ _ (I 24) (by simp) (by rw [if_neg (by simp [h0])]; exact ⟨rfl, Nat.le_refl _, fun _ _ => rfl⟩)
    · have hpos : 0 < s.frames.length := List.length_pos_iff.2 h0
      have hb0 : ((s.frames.length : Int) == 0) = false := by simp [h0]
      have hk : s.frames.length - 1 < s.frames.length := by omega
      have hki : ((s.frames.length - 1 : Nat) : Int) < s.frames.length := by omega
      obtain ⟨ys, hb⟩ := h.hb
      have hbn := (h.lb b rfl).1
      have hbp := (h.lb b rfl).2
      have hpb : ¬ p = b := fun e => hbp e.symm
      have hw := wrap_pred (a := s.frames.length) (by omega) (by omega)
      simp [hp, hb0, h0]
      refine Stk.regionD 999 [.rd [], .rd [], .rd [], .rd [], .rd [p], .rd [], .rd [], .rd [], .rd [], .rd [p], .rd [], .rd [], .rd [], .rd [b], .rd [], .mem [b] n] none (by kernel_rfl) (by rfl) rfl (by simp [below, *]) rfl ?_
      simp [hp, hw, hb, hk, hki, h0, hpos]
      have hle : (s.frames.length - 1) * 3 + 1 + 1 ≤ s.frames.length * 3 + ys.length := by omega
      have hsp := splice_pc s.frames ys (s.frames.length - 1) hk pc
      rw [if_pos hle]
      refine ⟨fun j hj hj' => by simp [hj'], ?_⟩
      refine hr _ _ _ (I 0) (by simp) ?_
      rw [if_pos h0]
      have hjd : s.jumped pc = s.frames.set (s.frames.length - 1) ((s.frames[s.frames.length - 1]).1, pc, (s.frames[s.frames.length - 1]).2.2) := by unfold Sk.jumped; simp [hk]
      have hjl : (s.jumped pc).length = s.frames.length := by unfold Sk.jumped; simp
      refine ⟨rfl, ia, some b, ⟨?_, h.ha.mono fun j hj => ?_, ⟨ys, ?_⟩, hlp, h.la, h.lb, h.ab, ⟨hok.most, hok.slots, by simp only [hjl]; exact hfr, hok.peak, Rising.set hok.rising _ _ (by omega)⟩⟩, Nat.le_refl _, fun j hj hjp hja hjb => upd_ne _ _ (fun e => hjb (by rw [e])), fun j hj => .inl hj, fun j hj => .inl hj⟩
      · rw [upd_ne _ _ hpb, hp, hjl]; simp
      · exact upd_ne _ _ (fun e => h.ab j hj (by rw [e]))
      · rw [upd_same, hsp, hjd]

theorem movedR {H : Mem} {n p : Nat} {s : Sk} {ia ib : Option Nat} (h : Rt H n p s ia ib) {o : Option Nat} {xs : List Int} {c : Option Nat} (ho : Own H 40 eU o xs) (hl : xs.length ≤ 65536) :
    RunQ Try.prog T.T 110 [.own p 0, slc o xs.length c] H n (fun r H' n' => if xs.length = s.slots.length
      then r = I 0 ∧ ∃ ia' ib', RStep H n p ia ib H' n' ⟨xs, s.frames, s.most, s.peak⟩ ia' ib'
      else r = I 24 ∧ n ≤ n' ∧ ∀ j, j < n → H' j = H j) := by
  have hlp := h.lp
  have hp := h.hp
  have hok := h.ok
  have hwd := words (n := n) (c := c) ho hl
  have fin : xs.length = s.slots.length → ∀ (o1 : Option Nat) (H1 : Mem) (n1 : Nat), Own H1 40 eU o1 xs → n ≤ n1 → (∀ i, o1 = some i → n ≤ i ∧ i < n1) → (∀ j, j < n → H1 j = H j) → ∀ H2, H2 = upd H1 p (some (.cells [slv o1 xs.length, slv ib s.frames.length, I s.peak, I s.most] 150)) → ∃ ia' ib', RStep H n p ia ib H2 n1 ⟨xs, s.frames, s.most, s.peak⟩ ia' ib' := by
    intro heq o1 H1 n1 w1 l1 f1 k1 H2 h2
    subst h2
    exact ⟨o1, ib, rslots h w1 l1 f1 k1 (by simp) (fun j hj => by simp [hj]) ⟨hok.most, by simp only [heq]; exact hok.slots, hok.frames, hok.peak, by simp only [heq]; exact hok.rising⟩⟩
  refine RunQ.ev 999 Try.func110 rfl rfl rfl rfl rfl fun C hr hn => ?_
  have ts0 : ia = none → s.slots.length = 0 := fun e => by subst e; have h0 : s.slots = [] := h.ha; rw [h0]; rfl
  have xs0 : o = none → xs.length = 0 := fun e => by subst e; have h0 : xs = [] := ho; rw [h0]; rfl
  by_cases heq : xs.length = s.slots.length
  · have hb1 : ((xs.length : Int) != s.slots.length) = false := by simp [heq]
    cases o with
    | none =>
      have hx0 := xs0 rfl
      have hs0 : s.slots.length = 0 := by omega
      have hs0' : s.slots = [] := List.length_eq_zero_iff.1 hs0
      cases ia with
      | none =>
        simp at hp
        simp [slc] at hwd
        simp [slc, hp]
        refine Stk.callS 999 hwd rfl rfl rfl (by simp) ?_
        rintro v H1 n1 ⟨o1, rfl, w1, l1, f1, k1⟩
        have hp1 : H1 p = _ := (k1 p hlp).trans hp
        simp [hp1]
        exact hr _ _ _ (I 0) (by simp) (by rw [if_pos heq]; exact ⟨rfl, fin heq o1 H1 n1 w1 l1 f1 k1 _ rfl⟩)
      | some a =>
        simp at hp
        simp [slc] at hwd
        simp [slc, hp, hs0, hs0']
        refine Stk.callS 999 hwd rfl rfl rfl (by simp) ?_
        rintro v H1 n1 ⟨o1, rfl, w1, l1, f1, k1⟩
        have hp1 : H1 p = _ := (k1 p hlp).trans hp
        simp [hp1]
        exact hr _ _ _ (I 0) (by simp) (by rw [if_pos heq]; exact ⟨rfl, fin heq o1 H1 n1 w1 l1 f1 k1 _ rfl⟩)
    | some b =>
      cases ia with
      | none =>
        have hs0 := ts0 rfl
        have hx0 : xs.length = 0 := by omega
        have hx0' : xs = [] := List.length_eq_zero_iff.1 hx0
        simp at hp
        simp [slc] at hwd
        simp [slc, hp, hx0, hx0']
        simp [hx0, hx0'] at hwd
        refine Stk.callS 999 hwd rfl rfl rfl (by simp) ?_
        rintro v H1 n1 ⟨o1, rfl, w1, l1, f1, k1⟩
        have hp1 : H1 p = _ := (k1 p hlp).trans hp
        simp [hp1]
        exact hr _ _ _ (I 0) (by simp) (by rw [if_pos heq]; exact ⟨rfl, fin heq o1 H1 n1 (by rw [hx0']; exact w1) l1 f1 k1 _ (by rw [hx0])⟩)
      | some a =>
        simp at hp
        simp [slc] at hwd
        simp [slc, hp, hb1]
        refine Stk.callS 999 hwd rfl rfl rfl (by simp) ?_
        rintro v H1 n1 ⟨o1, rfl, w1, l1, f1, k1⟩
        have hp1 : H1 p = _ := (k1 p hlp).trans hp
        simp [hp1]
        exact hr _ _ _ (I 0) (by simp) (by rw [if_pos heq]; exact ⟨rfl, fin heq o1 H1 n1 w1 l1 f1 k1 _ rfl⟩)
  · have hb1 : ((xs.length : Int) != s.slots.length) = true := by simp; omega
    cases o with
    | none =>
      have hx0 := xs0 rfl
      cases ia with
      | none => have hs0 := ts0 rfl; omega
      | some a =>
        have hs0 : ¬ s.slots = [] := fun e => heq (by rw [hx0, e]; rfl)
        have hb2 : ((0 : Int) != s.slots.length) = true := by rw [← hb1, hx0]; rfl
        simp at hp
        simp [slc, hp, hb2]
        exact hr _ _ _ (I 24) (by simp) (by rw [if_neg heq]; exact ⟨rfl, Nat.le_refl _, fun _ _ => rfl⟩)
    | some b =>
      cases ia with
      | none =>
        have hs0 := ts0 rfl
        have hx0 : ¬ xs = [] := fun e => heq (by rw [hs0, e]; rfl)
        have hb2 : ((xs.length : Int) != 0) = true := by rw [← hb1, hs0]; rfl
        simp at hp
        simp [slc, hp, hb2, hx0]
        exact hr _ _ _ (I 24) (by simp) (by rw [if_neg heq]; exact ⟨rfl, Nat.le_refl _, fun _ _ => rfl⟩)
      | some a =>
        simp at hp
        simp [slc, hp, hb1]
        exact hr _ _ _ (I 24) (by simp) (by rw [if_neg heq]; exact ⟨rfl, Nat.le_refl _, fun _ _ => rfl⟩)
end Go.Proofs.Ytfflojbgikfbmaa.Sta

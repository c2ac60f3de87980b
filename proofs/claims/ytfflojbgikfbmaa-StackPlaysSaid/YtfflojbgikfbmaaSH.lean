/-
  The stack's Frame, Jump, Moved.
-/
import Derived.Test.YtfflojbgikfbmaaSG
namespace Go.Proofs.Ytfflojbgikfbmaa.Sta
open Go.Proofs.YtfflojbgikfbmaaW.Ah
set_option maxRecDepth 4000
set_option linter.unusedVariables false
set_option linter.unusedSimpArgs false
attribute [local simp] T.t3 T.t4 T.t5 T.t26 T.t39 T.t40 T.t41 T.t47 T.t49 T.t73 T.t77 T.t79 T.t128 T.t130 T.t132 T.t135 T.t150 Op.maxDepth List.range List.range.loop
attribute [-simp] appendAV cellsOf cellOk partOk
attribute [local simp] cellsOf_sc cellOk_sc partOk_sc cellsOf_own cellOk_own partOk_own cellsOf_osl cellOk_osl partOk_osl cellsOf_sh cellOk_sh partOk_sh cellsOf_ssl cellOk_ssl partOk_ssl cellsOf_esl cellOk_esl partOk_esl cellsOf_fn cellOk_fn partOk_fn cellsOf_omap cellOk_omap partOk_omap cellsOf_agg partOk_agg cellsOf_slv cellOk_slv partOk_slv

theorem frame {H : Mem} {n p : Nat} {s : Sk} {ia ib : Option Nat} (h : St H n p s ia ib) :
    RunQ Try.prog T.T 44 [.own p 0] H n (fun r H' n' => r = s.top ∧ n ≤ n' ∧ ∀ j, j < n → H' j = H j) := by
  have hp := h.hp
  have hlp := h.lp
  have hok := h.ok
  have hpn : ¬ p = n := by omega
  have hp1 : p < n + 1 := by omega
  refine RunQ.ev 999 Try.func44 rfl rfl rfl rfl rfl fun C hr hn => ?_
  have fin0 : s.frames = [] → ∀ (t : Nat → AV) H2, t 2 = .own n 0 → t 3 = B false → H2 n = some (.cells [I 0, I 0, I 0] 79) → (∀ j, j < n → H2 j = H j) → C .ret t H2 (n + 1) := by
    intro h0 t H2 t2 t3 g1 g2
    exact hr _ _ _ (.tup [.agg [I 0, I 0, I 0], B false]) (by simp [t2, t3, g1, partOf]) ⟨by simp [Sk.top, h0], by omega, g2⟩
  cases ib with
  | none =>
    have h0 : s.frames = [] := h.hb
    simp [hp, hpn]
    exact fin0 h0 _ _ (by simp) (by simp) (by simp) (fun j hj => by simp [show j ≠ n by omega])
  | some b =>
    by_cases h0 : s.frames = []
    · simp [hp, hpn, h0]
      exact fin0 h0 _ _ (by simp) (by simp) (by simp) (fun j hj => by simp [show j ≠ n by omega])
    · have hpos : 0 < s.frames.length := List.length_pos_iff.2 h0
      have hb0 : ((s.frames.length : Int) == 0) = false := by simp [h0]
      have hk : s.frames.length - 1 < s.frames.length := by omega
      obtain ⟨ys, hb⟩ := h.hb
      have hbn := (h.lb b rfl).1
      have hbn' : ¬ b = n := by omega
      have hb1 : b < n + 1 := by omega
      have hpo := part_own (e := eF) (z := 3) T.t79 rfl rfl s.frames ys (s.frames.length - 1) hk
      obtain ⟨f, hf⟩ : ∃ f, f = s.frames[s.frames.length - 1] := ⟨_, rfl⟩
      rw [← hf] at hpo
      have htop : s.top = .tup [.agg (eF f), B true] := by
        unfold Sk.top
        rw [List.getLast?_eq_getElem?, List.getElem?_eq_getElem hk, ← hf]
      have hw := wrap_pred (a := s.frames.length) (by omega) (by have := hok.frames; omega)
      simp [hp, hpn, hb0, h0]
      refine Stk.regionD 999 [.rd [], .rd [], .rd [], .rd [p], .rd [], .rd [], .rd [], .rd [p], .rd [], .rd [], .rd [], .rd [], .rd [b], .mem [n] (n + 1), .rd []] none (by kernel_rfl) (by rfl) rfl (by simp [below, *]) rfl ?_
      simp [hp, hpn, hw, hb, hbn', hpo, hpos, h0, hk]
      refine ⟨fun j hj hj' e => absurd e hj', ?_⟩
      exact hr _ _ _ (.tup [.agg (eF f), B true]) (by simp [partOf]) ⟨htop.symm, by omega, fun j hj => by simp [show j ≠ n by omega]⟩

theorem jump {H : Mem} {n p : Nat} {s : Sk} {ia ib : Option Nat} (h : St H n p s ia ib) (pc : Int) :
    RunQ Try.prog T.T 107 [.own p 0, I pc] H n (fun r H' n' => if s.frames ≠ []
      then r = I 0 ∧ ∃ ia' ib', Step H n p ia ib H' n' ⟨s.slots, s.jumped pc, s.most, s.peak⟩ ia' ib'
      else r = I 24 ∧ n ≤ n' ∧ ∀ j, j < n → H' j = H j) := by
  have hlp := h.lp
  have hp := h.hp
  have hok := h.ok
  have hfr := hok.frames
  refine RunQ.ev 999 Try.func107 rfl rfl rfl rfl rfl fun C hr hn => ?_
  cases ib with
  | none =>
    have h0 : s.frames = [] := h.hb
    have hl0 : s.frames.length = 0 := by rw [h0]; rfl
    rw [hl0] at hp
    simp at hp
    simp [hp]
    exact hr _ _ _ (I 24) (by simp) (by rw [if_neg (by simp [h0])]; exact ⟨rfl, Nat.le_refl _, fun _ _ => rfl⟩)
  | some b =>
    simp at hp
    by_cases h0 : s.frames = []
    · have hl0 : s.frames.length = 0 := by rw [h0]; rfl
      simp [hp, hl0, h0]
      exact hr _ _ _ (I 24) (by simp) (by rw [if_neg (by simp [h0])]; exact ⟨rfl, Nat.le_refl _, fun _ _ => rfl⟩)
    · have hpos : 0 < s.frames.length := List.length_pos_iff.2 h0
      have hb0 : ((s.frames.length : Int) == 0) = false := by simp [h0]
      have hk : s.frames.length - 1 < s.frames.length := by omega
      have hki : ((s.frames.length - 1 : Nat) : Int) < s.frames.length := by omega
      obtain ⟨ys, hb⟩ := h.hb
      have hbn := (h.lb b rfl).1
      have hbp := (h.lb b rfl).2
      have hpb : ¬ p = b := fun e => hbp e.symm
      have hw := wrap_pred (a := s.frames.length) (by omega) (by omega)
      simp [hp, hb0, h0]
      refine Stk.regionD 999 [.rd [], .rd [], .rd [], .rd [p], .rd [], .rd [], .rd [], .rd [p], .rd [], .rd [], .rd [], .rd [b], .rd [], .rd [], .mem [b] n] none (by kernel_rfl) (by rfl) rfl (by simp [below, *]) rfl ?_
      simp [hp, hw, hb, hk, hki, h0, hpos]
      have hle : (s.frames.length - 1) * 3 + 1 + 1 ≤ s.frames.length * 3 + ys.length := by omega
      have hsp := splice_pc s.frames ys (s.frames.length - 1) hk pc
      rw [if_pos hle]
      refine ⟨fun j hj hj' => by simp [hj'], ?_⟩
      refine hr _ _ _ (I 0) (by simp) ?_
      rw [if_pos h0]
      have hjd : s.jumped pc = s.frames.set (s.frames.length - 1) ((s.frames[s.frames.length - 1]).1, pc, (s.frames[s.frames.length - 1]).2.2) := by unfold Sk.jumped; simp [hk]
      have hjl : (s.jumped pc).length = s.frames.length := by unfold Sk.jumped; simp
      refine ⟨rfl, ia, some b, ⟨?_, h.ha.mono fun j hj => ?_, ⟨ys, ?_⟩, hlp, h.la, h.lb, h.ab, ⟨hok.most, hok.slots, by simp only [hjl]; exact hfr, hok.peak, Rising.set hok.rising _ _ (by omega)⟩⟩, Nat.le_refl _, fun j hj hjp hja hjb => upd_ne _ _ (fun e => hjb (by rw [e])), fun j hj => .inl hj, fun j hj => .inl hj⟩
      · rw [upd_ne _ _ hpb, hp, hjl]; simp
      · exact upd_ne _ _ (fun e => h.ab j hj (by rw [e]))
      · rw [upd_same, hsp, hjd]

theorem splice_all (xs ys : List Int) (zs rest : List AV) (h : xs.length = ys.length) : splice (encs eU ys ++ zs) 0 ((encs eU xs ++ rest).take (ys.length * 1)) = encs eU xs ++ zs := by
  have hx : (encs eU xs).length = ys.length := by rw [length_encs]; omega
  have hy : (encs eU ys).length = ys.length := by rw [length_encs]; omega
  unfold splice
  rw [Nat.mul_one, ← hx, List.take_left' rfl, hx, Nat.zero_add, List.take_zero, List.nil_append, ← hy, List.drop_left' rfl]

theorem moved {H : Mem} {n p : Nat} {s : Sk} {ia ib : Option Nat} (h : St H n p s ia ib) {o : Option Nat} {xs : List Int} {c : Option Nat} (ho : Own H 40 eU o xs) (hd : ∀ j, o = some j → j ≠ p ∧ ia ≠ some j) :
    RunQ Try.prog T.T 109 [.own p 0, slc o xs.length c] H n (fun r H' n' => if xs.length = s.slots.length
      then r = I 0 ∧ ∃ ia' ib', Step H n p ia ib H' n' ⟨xs, s.frames, s.most, s.peak⟩ ia' ib'
      else r = I 24 ∧ n ≤ n' ∧ ∀ j, j < n → H' j = H j) := by
  have hlp := h.lp
  have hp := h.hp
  have hok := h.ok
  refine RunQ.ev 999 Try.func109 rfl rfl rfl rfl rfl fun C hr hn => ?_
  have ts0 : ia = none → s.slots.length = 0 := fun e => by subst e; have h0 : s.slots = [] := h.ha; rw [h0]; rfl
  have xs0 : o = none → xs.length = 0 := fun e => by subst e; have h0 : xs = [] := ho; rw [h0]; rfl
  by_cases heq : xs.length = s.slots.length
  · have hb1 : ((xs.length : Int) != s.slots.length) = false := by simp [heq]
    have fin : ∀ (t : Nat → AV) (H2 : Mem), t 4 = I 0 → Own H2 40 eU ia xs → (∀ j, ia ≠ some j → H2 j = H j) → C .ret t H2 n := by
      intro t H2 ht w k
      refine hr _ _ _ (I 0) (by simp [ht]) ?_
      rw [if_pos heq]
      exact ⟨rfl, ia, ib, ⟨⟨by rw [k p h.pa, hp, heq], w, h.hb.mono fun j hj => k j (fun e => h.ab j e hj), hlp, h.la, h.lb, h.ab, ⟨hok.most, by simp only [heq]; exact hok.slots, hok.frames, hok.peak, by simp only [heq]; exact hok.rising⟩⟩, Nat.le_refl _, fun j hj _ hja _ => k j hja, fun _ hj => .inl hj, fun _ hj => .inl hj⟩⟩
    cases o with
    | none =>
      have hx0 := xs0 rfl
      have hx0' : xs = [] := List.length_eq_zero_iff.1 hx0
      have hs0 : s.slots.length = 0 := by omega
      have hs0' : s.slots = [] := List.length_eq_zero_iff.1 hs0
      cases ia with
      | none =>
        simp at hp
        simp [slc, hp]
        exact fin _ _ (by simp) hx0' (fun _ _ => rfl)
      | some a =>
        obtain ⟨zs, ha⟩ := h.ha
        simp at hp
        simp [slc, hp, hs0, hs0', ha, splice]
        exact fin _ _ (by simp) ⟨zs, by rw [upd_same, hx0']; rfl⟩ (fun j hj => upd_ne _ _ (fun e => hj (by rw [e])))
    | some b =>
      obtain ⟨rest, hb⟩ := ho
      cases ia with
      | none =>
        have hs0 := ts0 rfl
        have hx0 : xs.length = 0 := by omega
        have hx0' : xs = [] := List.length_eq_zero_iff.1 hx0
        simp at hp
        simp [slc, hp, hx0, hx0', hb]
        exact fin _ _ (by simp) hx0' (fun _ _ => rfl)
      | some a =>
        obtain ⟨zs, ha⟩ := h.ha
        have hba : ¬ b = a := fun e => (hd b rfl).2 (by rw [e])
        have hok1 := encs_okU xs
        have hsp := splice_all xs s.slots zs rest heq
        have hall : ((encs eU xs ++ rest).take (s.slots.length * 1)).all cellOk = true := by
          rw [Nat.mul_one, ← heq, show xs.length = (encs eU xs).length by rw [length_encs]; omega, List.take_left' rfl]; exact hok1
        simp only [Nat.mul_one] at hsp hall
        simp at hp
        simp [slc, hp, hb1, ha, hb, heq, hsp, hall, -List.all_eq_true]
        rw [if_pos hok1]
        exact fin _ _ (by simp) ⟨zs, by rw [upd_same, List.take_of_length_le (by rw [length_encs]; omega)]⟩ (fun j hj => upd_ne _ _ (fun e => hj (by rw [e])))
  · have hb1 : ((xs.length : Int) != s.slots.length) = true := by simp; omega
    cases o with
    | none =>
      have hx0 := xs0 rfl
      cases ia with
      | none => have hs0 := ts0 rfl; omega
      | some a =>
        have hs0 : ¬ s.slots = [] := fun e => heq (by rw [hx0, e]; rfl)
        have hb2 : ((0 : Int) != s.slots.length) = true := by rw [← hb1, hx0]; rfl
        simp at hp
        simp [slc, hp, hb2]
        exact hr _ _ _ (I 24) (by simp) (by rw [if_neg heq]; exact ⟨rfl, Nat.le_refl _, fun _ _ => rfl⟩)
    | some b =>
      cases ia with
      | none =>
        have hs0 := ts0 rfl
        have hx0 : ¬ xs = [] := fun e => heq (by rw [hs0, e]; rfl)
        have hb2 : ((xs.length : Int) != 0) = true := by rw [← hb1, hs0]; rfl
        simp at hp
        simp [slc, hp, hb2, hx0]
        exact hr _ _ _ (I 24) (by simp) (by rw [if_neg heq]; exact ⟨rfl, Nat.le_refl _, fun _ _ => rfl⟩)
      | some a =>
        simp at hp
        simp [slc, hp, hb1]
        exact hr _ _ _ (I 24) (by simp) (by rw [if_neg heq]; exact ⟨rfl, Nat.le_refl _, fun _ _ => rfl⟩)
end Go.Proofs.Ytfflojbgikfbmaa.Sta

/-
  The stack's copies: Clone, Roots, Leave, Dump.
-/
import Derived.Test.YtfflojbgikfbmaaStkC
namespace Go.Proofs.Ytfflojbgikfbmaa.Sta
open Go.Proofs.YtfflojbgikfbmaaW.Ah
set_option maxRecDepth 4000
set_option linter.unusedVariables false
set_option linter.unusedSimpArgs false
attribute [local simp] T.t3 T.t4 T.t26 T.t39 T.t40 T.t41 T.t47 T.t49 T.t128 T.t130 T.t132 T.t135 T.t79 Op.maxDepth List.range List.range.loop
attribute [-simp] appendAV

/-- A slice of a copy. -/
def slc : Option Nat → Nat → Option Nat → AV
  | none, _, _ => .sc (.slice none 0 0)
  | some i, n, c => .osl i 0 n c

theorem clone {H : Mem} {n : Nat} {o : Option Nat} {xs : List Int} (ho : Own H 40 eU o xs) (hn : ∀ i, o = some i → i < n) (hl : xs.length ≤ 65536) :
    RunQ Try.prog T.T 85 [slv o xs.length] H n (fun r H' n' => ∃ o' c, r = slc o' xs.length c ∧ Own H' 40 eU o' xs ∧ n ≤ n' ∧ (∀ i, o' = some i → n ≤ i ∧ i < n') ∧ ∀ j, j < n → H' j = H j) := by
  refine RunQ.ev 999 Try.func85 rfl rfl rfl rfl rfl fun C hr hn' => ?_
  cases o with
  | none =>
    simp
    exact hr _ _ _ (.sc (.slice none 0 0)) (by simp) ⟨none, none, rfl, ho, Nat.le_refl _, fun i h => (by cases h), fun j _ => rfl⟩
  | some i =>
    obtain ⟨ys, h1⟩ := ho
    have hi := hn i rfl
    have hne : ¬ i = n := by omega
    by_cases h0 : xs.length = 0
    · have : xs = [] := List.length_eq_zero_iff.1 h0
      subst this
      simp [appendAV, h1, hne, roomMax]
      exact hr _ _ _ (.osl n 0 0 (some 0)) (by simp) ⟨some n, some 0, rfl, ⟨[], by simp⟩, by omega, (fun j h => by cases h; omega), fun j hj => by simp [show j ≠ n by omega]⟩
    · have hall : (encs eU xs).all cellOk = true := by
        rw [List.all_eq_true]
        intro x hx
        simp only [encs, List.mem_flatMap] at hx
        obtain ⟨y, _, hy⟩ := hx
        simp at hy; subst hy; rfl
      have hr1 : xs.length * 8 ≤ 70368744177664 := by omega
      have hr2 : xs.length ≤ 70368744177664 := by omega
      have hnx : ¬ xs = [] := fun e => h0 (by rw [e]; rfl)
      simp [appendAV, h1, hne, roomMax, hr1, hr2, hnx, hall, -cellOk, -List.all_eq_true]
      exact hr _ _ _ (.osl (n + 1) 0 xs.length none) (by simp) ⟨some (n + 1), none, rfl, ⟨[], by simp⟩, by omega, (fun j h => by cases h; omega), fun j hj => by simp [show j ≠ n by omega, show j ≠ n + 1 by omega]⟩

theorem roots {H : Mem} {n p : Nat} {s : Sk} {ia ib : Option Nat} (h : St H n p s ia ib) :
    RunQ Try.prog T.T 29 [.own p 0] H n (fun r H' n' => ∃ o' c, r = slc o' s.slots.length c ∧ Own H' 40 eU o' s.slots ∧ n ≤ n' ∧ (∀ i, o' = some i → n ≤ i ∧ i < n') ∧ ∀ j, j < n → H' j = H j) := by
  have hp := h.hp
  have hok := h.ok
  refine RunQ.ev 999 Try.func29 rfl rfl rfl rfl rfl fun C hr hn => ?_
  simp [hp]
  refine Stk.callS 999 (clone h.ha (fun i hi => (h.la i hi).1) (by have := hok.slots; have := hok.most; omega)) rfl rfl rfl (by simp) ?_
  rintro v H' n' ⟨o', c, rfl, hz⟩
  simp
  exact hr _ _ _ (slc o' s.slots.length c) (by simp) ⟨o', c, rfl, hz⟩

theorem St.far {H H' : Mem} {n n' p : Nat} {s : Sk} {ia ib : Option Nat} (h : St H n p s ia ib) (hn : n ≤ n') (hk : ∀ j, j < n → H' j = H j) : St H' n' p s ia ib :=
  ⟨by rw [hk p h.lp, h.hp], h.ha.mono fun i hi => hk i (h.la i hi).1, h.hb.mono fun i hi => hk i (h.lb i hi).1, by have := h.lp; omega, fun i hi => ⟨by have := (h.la i hi).1; omega, (h.la i hi).2⟩, fun i hi => ⟨by have := (h.lb i hi).1; omega, (h.lb i hi).2⟩, h.ab, h.ok⟩

theorem Rising.init : ∀ {fs : List (Int × Int × Nat)} {k : Nat}, Rising fs k → ∀ f, fs.getLast? = some f → Rising (fs.take (fs.length - 1)) f.2.2
  | _, _, .nil _, f, h => by simp at h
  | _, _, .snoc h1 h2, f, h => by simp at h; subst h; simpa using h1

theorem leave {H : Mem} {n p : Nat} {s : Sk} {ia ib : Option Nat} (h : St H n p s ia ib) :
    RunQ Try.prog T.T 23 [.own p 0] H n (fun r H' n' => if s.base < s.slots.length ∧ s.frames ≠ []
      then r = Er 0 ∧ ∃ ia' ib', Step H n p ia ib H' n' ⟨s.slots.take s.base ++ [s.slots.getD (s.slots.length - 1) 0], s.frames.take (s.frames.length - 1), s.most, s.peak⟩ ia' ib'
      else r = Er 24 ∧ H' = H ∧ n' = n) := by
  have hp := h.hp
  have hlp := h.lp
  have hok := h.ok
  have hle := hok.base_le
  refine RunQ.ev 999 Try.func23 rfl rfl rfl rfl rfl fun C hr hn => ?_
  simp
  refine Stk.callS 999 (lacks h 1) rfl rfl rfl (by simp) ?_
  rintro v H' n' ⟨rfl, rfl, rfl⟩
  by_cases hlt : s.base < s.slots.length
  · rw [if_neg (by omega)]
    cases ib with
    | none =>
      have h0 : s.frames = [] := h.hb
      simp [hp]
      exact hr _ _ _ (Er 24) (by simp) (by simp [h0])
    | some b =>
      by_cases h0 : s.frames = []
      · simp [hp, h0]
        exact hr _ _ _ (Er 24) (by simp) (by simp [h0])
      · have hpos : 0 < s.frames.length := List.length_pos_iff.2 h0
        have hne : ¬ s.frames.length = 0 := by omega
        simp [hp, h0]
        refine Stk.callS 999 (base h) rfl rfl rfl (by simp) ?_
        rintro v H' n' ⟨rfl, rfl, rfl⟩
        simp
        refine Stk.callS 999 (keep h s.base hlt (Nat.le_refl _)) rfl rfl rfl (by simp) ?_
        rintro v H2 n2 ⟨rfl, ia', ib', hst⟩
        have st2 := hst.st
        have hp2 := st2.hp
        have hlast : s.slots.getD (s.slots.length - 1) 0 = s.slots[s.slots.length - 1] := by simp [show s.slots.length - 1 < s.slots.length by omega]
        have hw := wrap_pred (a := s.frames.length) (by omega) (by have := hok.frames; omega)
        cases ib' with
        | none => exact absurd st2.hb h0
        | some b2 =>
          obtain ⟨ys, hb2⟩ := st2.hb
          simp only at hb2
          have hlim : ((s.frames.length - 1 : Nat) : Int) ≤ max s.frames.length ((s.frames.length * 3 + ys.length) / 3) := by omega
          simp at hp2
          simp [hp2, hw, natOk, hb2, hlim]
          refine hr _ _ _ (Er 0) (by simp) ?_
          rw [if_pos ⟨hlt, h0⟩]
          have hl2 := List.getLast?_eq_getElem? (l := s.frames)
          obtain ⟨f, hf⟩ : ∃ f, s.frames.getLast? = some f := ⟨s.frames[s.frames.length - 1], by rw [hl2]; simp [hpos]⟩
          have hbf : s.base = f.2.2 := by unfold Sk.base; rw [hf]
          refine ⟨rfl, ia', some b2, hst.trans (head_step st2 (by simp [hlast]) (fun j hj => by simp [hj]) (by rw [hlast]; exact st2.ha) ((show Own H2 132 eF (some b2) s.frames from ⟨ys, hb2⟩).take _) ⟨hok.most, ?_, ?_, hok.peak, ?_⟩)⟩
          · have := hok.slots; simp; omega
          · have := hok.frames; simp; omega
          · have := hok.rising.init f hf
            exact this.weak (by simp; omega)
  · rw [if_pos (by omega)]
    simp
    exact hr _ _ _ (Er 24) (by simp) (by rw [if_neg (by simp [hlt])]; simp)
end Go.Proofs.Ytfflojbgikfbmaa.Sta

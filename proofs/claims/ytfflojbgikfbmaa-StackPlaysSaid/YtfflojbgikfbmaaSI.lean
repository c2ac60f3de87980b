/-
  The stack's Cut.
-/
import Derived.Test.YtfflojbgikfbmaaSH
namespace Go.Proofs.Ytfflojbgikfbmaa.Sta
open Go.Proofs.YtfflojbgikfbmaaW.Ah
set_option maxRecDepth 4000
set_option linter.unusedVariables false
set_option linter.unusedSimpArgs false
attribute [local simp] T.t3 T.t4 T.t5 T.t26 T.t39 T.t40 T.t41 T.t47 T.t49 T.t73 T.t77 T.t79 T.t128 T.t130 T.t132 T.t135 T.t150 Op.maxDepth List.range List.range.loop
attribute [-simp] appendAV cellsOf cellOk partOk
attribute [local simp] cellsOf_sc cellOk_sc partOk_sc cellsOf_own cellOk_own partOk_own cellsOf_osl cellOk_osl partOk_osl cellsOf_sh cellOk_sh partOk_sh cellsOf_ssl cellOk_ssl partOk_ssl cellsOf_esl cellOk_esl partOk_esl cellsOf_fn cellOk_fn partOk_fn cellsOf_omap cellOk_omap partOk_omap cellsOf_agg partOk_agg cellsOf_slv cellOk_slv partOk_slv

theorem cutStep {H H2 : Mem} {n p : Nat} {s : Sk} {ia ib : Option Nat} (h : St H n p s ia ib) {K M : Nat} (hK : K ≤ s.frames.length) (hM : M ≤ s.slots.length) (hb : s.cutBase K ≤ M)
    (e1 : H2 p = some (.cells [slv ia M, slv ib K, I s.most, I s.peak] 130)) (e2 : ∀ j, j ≠ p → H2 j = H j) : ∃ ia' ib', Step H n p ia ib H2 n ⟨s.slots.take M, s.frames.take K, s.most, s.peak⟩ ia' ib' := by
  have hml : (s.slots.take M).length = M := by simp; omega
  have hkl : (s.frames.take K).length = K := by simp; omega
  exact ⟨ia, ib, head_step h (by rw [e1, hml, hkl]) e2 (h.ha.take M) (h.hb.take K) (h.ok.cut hK hM hb)⟩

def GutDone (H : Mem) (n p : Nat) (s : Sk) (ia ib : Option Nat) (k m : Int) (r : AV) (H' : Mem) (n' : Nat) : Prop :=
  (s.cuts k m → r = I 0 ∧ ∃ ia' ib', Step H n p ia ib H' n' ⟨s.slots.take m.toNat, s.frames.take k.toNat, s.most, s.peak⟩ ia' ib') ∧ (¬ s.cuts k m → r = I 24 ∧ n ≤ n' ∧ ∀ j, j < n → H' j = H j)


theorem cutG_00 {H : Mem} {n p : Nat} {s : Sk} {a b : Nat} (h : St H n p s none none) (k m : Int) :
    RunQ Try.prog T.T 103 [.own p 0, I k, I m] H n (GutDone H n p s none none k m) := by
  have hlp := h.lp
  have hp := h.hp
  refine RunQ.ev 24 Try.func103 rfl rfl rfl rfl rfl fun C hr hn => ?_
  have no : ¬ s.cuts k m → ∀ t : Nat → AV, t 6 = I 24 → C .ret t H n := fun hc t ht => hr _ _ _ (I 24) (by simp [ht]) ⟨fun g => absurd g hc, fun _ => ⟨rfl, Nat.le_refl _, fun _ _ => rfl⟩⟩
  by_cases h0 : k < 0
  · simp [h0]
    iterate 6 (try (refine evS_sound (f := 24) ?_; simp [h0]))
    exact no (fun g => by have := g.1; omega) _ (by simp)
  obtain ⟨K, rfl⟩ := Int.eq_ofNat_of_zero_le (show 0 ≤ k by omega)
  have yes : ∀ M : Nat, m = M → K ≤ s.frames.length → M ≤ s.slots.length → s.cutBase K ≤ M → ∀ (t : Nat → AV) H2, t 6 = I 0 → H2 p = some (.cells [slv none M, slv none K, I s.most, I s.peak] 130) → (∀ j, j ≠ p → H2 j = H j) → C .ret t H2 n := by
    intro M hM hK hMs hb t H2 ht e1 e2
    subst hM
    exact hr _ _ _ (I 0) (by simp [ht]) ⟨fun _ => ⟨rfl, cutStep h hK hMs hb e1 e2⟩, fun g => absurd (show s.cuts (K : Int) (M : Int) from ⟨by omega, by omega, by omega, by simpa using hb⟩) g⟩
  clear hr hn
  have hF : s.frames = [] := h.hb
  have hf0 : s.frames.length = 0 := by rw [hF]; rfl
  have hS : s.slots = [] := h.ha
  have hs0 : s.slots.length = 0 := by rw [hS]; rfl
  simp at hp
  by_cases c1 : K ≤ 0
  · have c1i : ¬ (0 : Int) < K := by omega
    have c1n : ¬ 0 < K := by omega
    have hK : K = 0 := by omega
    subst hK
    have q1 : ¬ (0 : Int) < 0 := by omega
    by_cases c3 : m < 0
    · simp [hp, h0, q1, c1i, c1n, c3, hf0, hF]
      iterate 6 (try (refine evS_sound (f := 24) ?_; simp [hp, h0, q1, c1i, c1n, c3, hf0, hF]))
      exact no (fun g => by have := g.2.2.2; omega) _ (by simp)
    obtain ⟨M, rfl⟩ := Int.eq_ofNat_of_zero_le (show 0 ≤ m by omega)
    by_cases c2 : M ≤ 0
    · have c2i : ¬ (0 : Int) < M := by omega
      have c2n : ¬ 0 < M := by omega
      have hM : M ≤ s.slots.length := by omega
      have hcb : s.cutBase 0 ≤ M := by simp [Sk.cutBase]
      have yy := yes M rfl (by omega) hM hcb
      have hM0 : M = 0 := by omega
      subst hM0
      simp at yy
      simp [hp, h0, q1, c1i, c1n, c2i, c2, c2n, c3, hf0, hF]
      iterate 6 (try (refine evS_sound (f := 24) ?_; simp [hp, h0, q1, c1i, c1n, c2i, c2, c2n, c3, hf0, hF]))
      refine Stk.regionD 999 [.rd [], .rd [], .rd [], .rd [], .rd [], .rd [p], .rd [], .rd [], .rd [], .rd [], .rd [], .rd [p], .rd [], .rd [], .rd [], .rd [], .mem [p] n, .rd [], .rd [], .mem [p] n] none (by kernel_rfl) (by rfl) rfl (by simp [below, hlp]) rfl ?_
      simp [hp, hf0, hF, natOk]
      refine ⟨fun j hj hj' e => absurd e hj', fun j hj hj' e => absurd e hj', ?_⟩
      exact yy _ _ (by simp) (by simp) (fun j hj => by simp [hj])
    · have c2i : (0 : Int) < M := by omega
      have c2n : 0 < M := by omega
      simp [hp, h0, q1, c1i, c1n, c2i, c2n, c2, c3, hf0, hF]
      iterate 6 (try (refine evS_sound (f := 24) ?_; simp [hp, h0, q1, c1i, c1n, c2i, c2n, c2, c3, hf0, hF]))
      exact no (fun g => by have := g.2.2.1; omega) _ (by simp)
  · have c1i : (0 : Int) < K := by omega
    have c1n : 0 < K := by omega
    simp [hp, h0, c1i, c1n]
    iterate 6 (try (refine evS_sound (f := 24) ?_; simp [hp, h0, c1i, c1n]))
    exact no (fun g => by have := g.2.1; omega) _ (by simp)

theorem cutG_0a {H : Mem} {n p : Nat} {s : Sk} {a b : Nat} (h : St H n p s (some a) none) (k m : Int) :
    RunQ Try.prog T.T 103 [.own p 0, I k, I m] H n (GutDone H n p s (some a) none k m) := by
  have hlp := h.lp
  have hp := h.hp
  refine RunQ.ev 24 Try.func103 rfl rfl rfl rfl rfl fun C hr hn => ?_
  have no : ¬ s.cuts k m → ∀ t : Nat → AV, t 6 = I 24 → C .ret t H n := fun hc t ht => hr _ _ _ (I 24) (by simp [ht]) ⟨fun g => absurd g hc, fun _ => ⟨rfl, Nat.le_refl _, fun _ _ => rfl⟩⟩
  by_cases h0 : k < 0
  · simp [h0]
    iterate 6 (try (refine evS_sound (f := 24) ?_; simp [h0]))
    exact no (fun g => by have := g.1; omega) _ (by simp)
  obtain ⟨K, rfl⟩ := Int.eq_ofNat_of_zero_le (show 0 ≤ k by omega)
  have yes : ∀ M : Nat, m = M → K ≤ s.frames.length → M ≤ s.slots.length → s.cutBase K ≤ M → ∀ (t : Nat → AV) H2, t 6 = I 0 → H2 p = some (.cells [slv (some a) M, slv none K, I s.most, I s.peak] 130) → (∀ j, j ≠ p → H2 j = H j) → C .ret t H2 n := by
    intro M hM hK hMs hb t H2 ht e1 e2
    subst hM
    exact hr _ _ _ (I 0) (by simp [ht]) ⟨fun _ => ⟨rfl, cutStep h hK hMs hb e1 e2⟩, fun g => absurd (show s.cuts (K : Int) (M : Int) from ⟨by omega, by omega, by omega, by simpa using hb⟩) g⟩
  clear hr hn
  have hF : s.frames = [] := h.hb
  have hf0 : s.frames.length = 0 := by rw [hF]; rfl
  obtain ⟨zs, ha⟩ := h.ha
  have han := (h.la a rfl).1
  simp at hp
  by_cases c1 : K ≤ 0
  · have c1i : ¬ (0 : Int) < K := by omega
    have c1n : ¬ 0 < K := by omega
    have hK : K = 0 := by omega
    subst hK
    have q1 : ¬ (0 : Int) < 0 := by omega
    by_cases c3 : m < 0
    · simp [hp, h0, q1, c1i, c1n, c3, hf0, hF]
      iterate 6 (try (refine evS_sound (f := 24) ?_; simp [hp, h0, q1, c1i, c1n, c3, hf0, hF]))
      exact no (fun g => by have := g.2.2.2; omega) _ (by simp)
    obtain ⟨M, rfl⟩ := Int.eq_ofNat_of_zero_le (show 0 ≤ m by omega)
    by_cases c2 : M ≤ s.slots.length
    · have c2i : ¬ (s.slots.length : Int) < M := by omega
      have c2n : ¬ s.slots.length < M := by omega
      have hM : M ≤ s.slots.length := by omega
      have hcb : s.cutBase 0 ≤ M := by simp [Sk.cutBase]
      have yy := yes M rfl (by omega) hM hcb
      have hls : (M : Int) ≤ s.slots.length + zs.length := by omega
      have hlsn : M ≤ s.slots.length + zs.length := by omega
      have hap : ¬ a = p := (h.la a rfl).2
      simp at yy
      simp [hp, h0, q1, c1i, c1n, c2i, c2, c2n, c3, hf0, hF]
      iterate 6 (try (refine evS_sound (f := 24) ?_; simp [hp, h0, q1, c1i, c1n, c2i, c2, c2n, c3, hf0, hF]))
      refine Stk.regionD 999 [.rd [], .rd [], .rd [], .rd [], .rd [], .rd [p], .rd [], .rd [], .rd [], .rd [], .rd [], .rd [p], .rd [], .rd [a], .rd [], .rd [], .mem [p] n, .rd [], .rd [], .mem [p] n] none (by kernel_rfl) (drawOk2_read [.rd [], .rd [], .rd [], .rd [], .rd [], .rd [p], .rd [], .rd [], .rd [], .rd [], .rd [], .rd [p], .rd [], .rd [], .rd [], .rd [], .mem [p] n, .rd [], .rd [], .mem [p] n] 13 [a] (by simp [hap]) rfl (by rfl)) rfl (by simp [below, hlp, han]) rfl ?_
      simp [hp, hf0, hF, hls, hlsn, ha, natOk]
      refine ⟨fun j hj hj' e => absurd e hj', fun j hj hj' e => absurd e hj', ?_⟩
      exact yy _ _ (by simp) (by simp) (fun j hj => by simp [hj])
    · have c2i : (s.slots.length : Int) < M := by omega
      have c2n : s.slots.length < M := by omega
      simp [hp, h0, q1, c1i, c1n, c2i, c2n, c2, c3, hf0, hF]
      iterate 6 (try (refine evS_sound (f := 24) ?_; simp [hp, h0, q1, c1i, c1n, c2i, c2n, c2, c3, hf0, hF]))
      exact no (fun g => by have := g.2.2.1; omega) _ (by simp)
  · have c1i : (0 : Int) < K := by omega
    have c1n : 0 < K := by omega
    simp [hp, h0, c1i, c1n]
    iterate 6 (try (refine evS_sound (f := 24) ?_; simp [hp, h0, c1i, c1n]))
    exact no (fun g => by have := g.2.1; omega) _ (by simp)

theorem cutG_b0 {H : Mem} {n p : Nat} {s : Sk} {a b : Nat} (h : St H n p s none (some b)) (k m : Int) :
    RunQ Try.prog T.T 103 [.own p 0, I k, I m] H n (GutDone H n p s none (some b) k m) := by
  have hlp := h.lp
  have hp := h.hp
  refine RunQ.ev 24 Try.func103 rfl rfl rfl rfl rfl fun C hr hn => ?_
  have no : ¬ s.cuts k m → ∀ t : Nat → AV, t 6 = I 24 → C .ret t H n := fun hc t ht => hr _ _ _ (I 24) (by simp [ht]) ⟨fun g => absurd g hc, fun _ => ⟨rfl, Nat.le_refl _, fun _ _ => rfl⟩⟩
  by_cases h0 : k < 0
  · simp [h0]
    iterate 6 (try (refine evS_sound (f := 24) ?_; simp [h0]))
    exact no (fun g => by have := g.1; omega) _ (by simp)
  obtain ⟨K, rfl⟩ := Int.eq_ofNat_of_zero_le (show 0 ≤ k by omega)
  have yes : ∀ M : Nat, m = M → K ≤ s.frames.length → M ≤ s.slots.length → s.cutBase K ≤ M → ∀ (t : Nat → AV) H2, t 6 = I 0 → H2 p = some (.cells [slv none M, slv (some b) K, I s.most, I s.peak] 130) → (∀ j, j ≠ p → H2 j = H j) → C .ret t H2 n := by
    intro M hM hK hMs hb t H2 ht e1 e2
    subst hM
    exact hr _ _ _ (I 0) (by simp [ht]) ⟨fun _ => ⟨rfl, cutStep h hK hMs hb e1 e2⟩, fun g => absurd (show s.cuts (K : Int) (M : Int) from ⟨by omega, by omega, by omega, by simpa using hb⟩) g⟩
  clear hr hn
  obtain ⟨ys, hb⟩ := h.hb
  have hfr := h.ok.frames
  have hbn := (h.lb b rfl).1
  have hS : s.slots = [] := h.ha
  have hs0 : s.slots.length = 0 := by rw [hS]; rfl
  simp at hp
  by_cases c1 : K ≤ s.frames.length
  · have c1i : ¬ (s.frames.length : Int) < K := by omega
    have c1n : ¬ s.frames.length < K := by omega
    have q1 : ¬ (s.frames.length : Int) < 0 := by omega
    by_cases c3 : m < 0
    · simp [hp, h0, q1, c1i, c1n, c3]
      iterate 6 (try (refine evS_sound (f := 24) ?_; simp [hp, h0, q1, c1i, c1n, c3]))
      exact no (fun g => by have := g.2.2.2; omega) _ (by simp)
    obtain ⟨M, rfl⟩ := Int.eq_ofNat_of_zero_le (show 0 ≤ m by omega)
    by_cases c2 : M ≤ 0
    · have c2i : ¬ (0 : Int) < M := by omega
      have c2n : ¬ 0 < M := by omega
      by_cases c0 : K = 0
      · subst c0
        have hM : M ≤ s.slots.length := by omega
        have hcb : s.cutBase 0 ≤ M := by simp [Sk.cutBase]
        have yy := yes M rfl (by omega) hM hcb
        have hlf : (0 : Int) ≤ max s.frames.length ((s.frames.length * 3 + ys.length) / 3) := by omega
        have hlfn : 0 ≤ max s.frames.length ((s.frames.length * 3 + ys.length) / 3) := by omega
        have hM0 : M = 0 := by omega
        subst hM0
        simp at yy
        simp [hp, h0, q1, c1i, c1n, c2i, c2, c2n, c3]
        iterate 6 (try (refine evS_sound (f := 24) ?_; simp [hp, h0, q1, c1i, c1n, c2i, c2, c2n, c3]))
        refine Stk.regionD 999 [.rd [], .rd [], .rd [], .rd [], .rd [], .rd [p], .rd [], .rd [b], .rd [], .rd [], .rd [], .rd [p], .rd [], .rd [], .rd [], .rd [], .mem [p] n, .rd [], .rd [], .mem [p] n] none (by kernel_rfl) (by rfl) rfl (by simp [below, hlp, hbn]) rfl ?_
        simp [hp, hlf, hlfn, hb, natOk]
        refine ⟨fun j hj hj' e => absurd e hj', fun j hj hj' e => absurd e hj', ?_⟩
        exact yy _ _ (by simp) (by simp) (fun j hj => by simp [hj])
      · have hk1 : K - 1 < s.frames.length := by omega
        have hk1i : ((K - 1 : Nat) : Int) < s.frames.length := by omega
        have c0n : 0 < K := by omega
        have c0i : (0 : Int) < K := by omega
        have hw := wrap_pred (a := K) (by omega) (by omega)
        have hce := cell_own (e := eF) (z := 3) s.frames ys (K - 1) 2 hk1 (by omega)
        have hcb : s.cutBase K = (s.frames[K - 1]).2.2 := by unfold Sk.cutBase; simp [c0n, hk1]
        simp only [eF] at hce
        rw [← hcb] at hce
        simp at hce
        by_cases c4 : M < s.cutBase K
        · have c4i : (M : Int) < s.cutBase K := by omega
          simp [hp, h0, c1i, c1n, c2i, c2n, c2, c3, c0, c0n, c0i, hw, hk1, hk1i, hb, hce, partOf, c4, c4i]
          iterate 6 (try (refine evS_sound (f := 24) ?_; simp [hp, h0, c1i, c1n, c2i, c2n, c2, c3, c0, c0n, c0i, hw, hk1, hk1i, hb, hce, partOf, c4, c4i]))
          exact no (fun g => by have := g.2.2.2; simp at this; omega) _ (by simp)
        · have c4i : ¬ (M : Int) < s.cutBase K := by omega
          have hM : M ≤ s.slots.length := by omega
          have hcM : s.cutBase K ≤ M := by omega
          have yy := yes M rfl c1 hM hcM
          have hlf : (K : Int) ≤ max s.frames.length ((s.frames.length * 3 + ys.length) / 3) := by omega
          have hlfn : K ≤ max s.frames.length ((s.frames.length * 3 + ys.length) / 3) := by omega
          have hM0 : M = 0 := by omega
          subst hM0
          simp at yy
          simp [hp, h0, c2n, c1i, c1n, c2i, c2, c0, c0n, c0i, hw, hk1, hk1i, hb, hce, partOf, c3, c4, c4i]
          iterate 6 (try (refine evS_sound (f := 24) ?_; simp [hp, h0, c2n, c1i, c1n, c2i, c2, c0, c0n, c0i, hw, hk1, hk1i, hb, hce, partOf, c3, c4, c4i]))
          refine Stk.regionD 999 [.rd [], .rd [], .rd [], .rd [], .rd [], .rd [p], .rd [], .rd [b], .rd [], .rd [], .rd [], .rd [p], .rd [], .rd [], .rd [], .rd [], .mem [p] n, .rd [], .rd [], .mem [p] n] none (by kernel_rfl) (by rfl) rfl (by simp [below, hlp, hbn]) rfl ?_
          simp [hp, hlf, hlfn, hb, natOk]
          refine ⟨fun j hj hj' e => absurd e hj', fun j hj hj' e => absurd e hj', ?_⟩
          exact yy _ _ (by simp) (by simp) (fun j hj => by simp [hj])
    · have c2i : (0 : Int) < M := by omega
      have c2n : 0 < M := by omega
      simp [hp, h0, q1, c1i, c1n, c2i, c2n, c2, c3]
      iterate 6 (try (refine evS_sound (f := 24) ?_; simp [hp, h0, q1, c1i, c1n, c2i, c2n, c2, c3]))
      exact no (fun g => by have := g.2.2.1; omega) _ (by simp)
  · have c1i : (s.frames.length : Int) < K := by omega
    have c1n : s.frames.length < K := by omega
    simp [hp, h0, c1i, c1n]
    iterate 6 (try (refine evS_sound (f := 24) ?_; simp [hp, h0, c1i, c1n]))
    exact no (fun g => by have := g.2.1; omega) _ (by simp)

theorem cutG_ba {H : Mem} {n p : Nat} {s : Sk} {a b : Nat} (h : St H n p s (some a) (some b)) (k m : Int) :
    RunQ Try.prog T.T 103 [.own p 0, I k, I m] H n (GutDone H n p s (some a) (some b) k m) := by
  have hlp := h.lp
  have hp := h.hp
  refine RunQ.ev 24 Try.func103 rfl rfl rfl rfl rfl fun C hr hn => ?_
  have no : ¬ s.cuts k m → ∀ t : Nat → AV, t 6 = I 24 → C .ret t H n := fun hc t ht => hr _ _ _ (I 24) (by simp [ht]) ⟨fun g => absurd g hc, fun _ => ⟨rfl, Nat.le_refl _, fun _ _ => rfl⟩⟩
  by_cases h0 : k < 0
  · simp [h0]
    iterate 6 (try (refine evS_sound (f := 24) ?_; simp [h0]))
    exact no (fun g => by have := g.1; omega) _ (by simp)
  obtain ⟨K, rfl⟩ := Int.eq_ofNat_of_zero_le (show 0 ≤ k by omega)
  have yes : ∀ M : Nat, m = M → K ≤ s.frames.length → M ≤ s.slots.length → s.cutBase K ≤ M → ∀ (t : Nat → AV) H2, t 6 = I 0 → H2 p = some (.cells [slv (some a) M, slv (some b) K, I s.most, I s.peak] 130) → (∀ j, j ≠ p → H2 j = H j) → C .ret t H2 n := by
    intro M hM hK hMs hb t H2 ht e1 e2
    subst hM
    exact hr _ _ _ (I 0) (by simp [ht]) ⟨fun _ => ⟨rfl, cutStep h hK hMs hb e1 e2⟩, fun g => absurd (show s.cuts (K : Int) (M : Int) from ⟨by omega, by omega, by omega, by simpa using hb⟩) g⟩
  clear hr hn
  obtain ⟨ys, hb⟩ := h.hb
  have hfr := h.ok.frames
  have hbn := (h.lb b rfl).1
  obtain ⟨zs, ha⟩ := h.ha
  have han := (h.la a rfl).1
  simp at hp
  by_cases c1 : K ≤ s.frames.length
  · have c1i : ¬ (s.frames.length : Int) < K := by omega
    have c1n : ¬ s.frames.length < K := by omega
    have q1 : ¬ (s.frames.length : Int) < 0 := by omega
    by_cases c3 : m < 0
    · simp [hp, h0, q1, c1i, c1n, c3]
      iterate 6 (try (refine evS_sound (f := 24) ?_; simp [hp, h0, q1, c1i, c1n, c3]))
      exact no (fun g => by have := g.2.2.2; omega) _ (by simp)
    obtain ⟨M, rfl⟩ := Int.eq_ofNat_of_zero_le (show 0 ≤ m by omega)
    by_cases c2 : M ≤ s.slots.length
    · have c2i : ¬ (s.slots.length : Int) < M := by omega
      have c2n : ¬ s.slots.length < M := by omega
      by_cases c0 : K = 0
      · subst c0
        have hM : M ≤ s.slots.length := by omega
        have hcb : s.cutBase 0 ≤ M := by simp [Sk.cutBase]
        have yy := yes M rfl (by omega) hM hcb
        have hlf : (0 : Int) ≤ max s.frames.length ((s.frames.length * 3 + ys.length) / 3) := by omega
        have hlfn : 0 ≤ max s.frames.length ((s.frames.length * 3 + ys.length) / 3) := by omega
        have hls : (M : Int) ≤ s.slots.length + zs.length := by omega
        have hlsn : M ≤ s.slots.length + zs.length := by omega
        have hap : ¬ a = p := (h.la a rfl).2
        simp at yy
        simp [hp, h0, q1, c1i, c1n, c2i, c2, c2n, c3]
        iterate 6 (try (refine evS_sound (f := 24) ?_; simp [hp, h0, q1, c1i, c1n, c2i, c2, c2n, c3]))
        refine Stk.regionD 999 [.rd [], .rd [], .rd [], .rd [], .rd [], .rd [p], .rd [], .rd [b], .rd [], .rd [], .rd [], .rd [p], .rd [], .rd [a], .rd [], .rd [], .mem [p] n, .rd [], .rd [], .mem [p] n] none (by kernel_rfl) (drawOk2_read [.rd [], .rd [], .rd [], .rd [], .rd [], .rd [p], .rd [], .rd [b], .rd [], .rd [], .rd [], .rd [p], .rd [], .rd [], .rd [], .rd [], .mem [p] n, .rd [], .rd [], .mem [p] n] 13 [a] (by simp [hap]) rfl (by rfl)) rfl (by simp [below, hlp, hbn, han]) rfl ?_
        simp [hp, hlf, hlfn, hb, hls, hlsn, ha, natOk]
        refine ⟨fun j hj hj' e => absurd e hj', fun j hj hj' e => absurd e hj', ?_⟩
        exact yy _ _ (by simp) (by simp) (fun j hj => by simp [hj])
      · have hk1 : K - 1 < s.frames.length := by omega
        have hk1i : ((K - 1 : Nat) : Int) < s.frames.length := by omega
        have c0n : 0 < K := by omega
        have c0i : (0 : Int) < K := by omega
        have hw := wrap_pred (a := K) (by omega) (by omega)
        have hce := cell_own (e := eF) (z := 3) s.frames ys (K - 1) 2 hk1 (by omega)
        have hcb : s.cutBase K = (s.frames[K - 1]).2.2 := by unfold Sk.cutBase; simp [c0n, hk1]
        simp only [eF] at hce
        rw [← hcb] at hce
        simp at hce
        by_cases c4 : M < s.cutBase K
        · have c4i : (M : Int) < s.cutBase K := by omega
          simp [hp, h0, c1i, c1n, c2i, c2n, c2, c3, c0, c0n, c0i, hw, hk1, hk1i, hb, hce, partOf, c4, c4i]
          iterate 6 (try (refine evS_sound (f := 24) ?_; simp [hp, h0, c1i, c1n, c2i, c2n, c2, c3, c0, c0n, c0i, hw, hk1, hk1i, hb, hce, partOf, c4, c4i]))
          exact no (fun g => by have := g.2.2.2; simp at this; omega) _ (by simp)
        · have c4i : ¬ (M : Int) < s.cutBase K := by omega
          have hM : M ≤ s.slots.length := by omega
          have hcM : s.cutBase K ≤ M := by omega
          have yy := yes M rfl c1 hM hcM
          have hlf : (K : Int) ≤ max s.frames.length ((s.frames.length * 3 + ys.length) / 3) := by omega
          have hlfn : K ≤ max s.frames.length ((s.frames.length * 3 + ys.length) / 3) := by omega
          have hls : (M : Int) ≤ s.slots.length + zs.length := by omega
          have hlsn : M ≤ s.slots.length + zs.length := by omega
          have hap : ¬ a = p := (h.la a rfl).2
          simp at yy
          simp [hp, h0, c2n, c1i, c1n, c2i, c2, c0, c0n, c0i, hw, hk1, hk1i, hb, hce, partOf, c3, c4, c4i]
          iterate 6 (try (refine evS_sound (f := 24) ?_; simp [hp, h0, c2n, c1i, c1n, c2i, c2, c0, c0n, c0i, hw, hk1, hk1i, hb, hce, partOf, c3, c4, c4i]))
          refine Stk.regionD 999 [.rd [], .rd [], .rd [], .rd [], .rd [], .rd [p], .rd [], .rd [b], .rd [], .rd [], .rd [], .rd [p], .rd [], .rd [a], .rd [], .rd [], .mem [p] n, .rd [], .rd [], .mem [p] n] none (by kernel_rfl) (drawOk2_read [.rd [], .rd [], .rd [], .rd [], .rd [], .rd [p], .rd [], .rd [b], .rd [], .rd [], .rd [], .rd [p], .rd [], .rd [], .rd [], .rd [], .mem [p] n, .rd [], .rd [], .mem [p] n] 13 [a] (by simp [hap]) rfl (by rfl)) rfl (by simp [below, hlp, hbn, han]) rfl ?_
          simp [hp, hlf, hlfn, hb, hls, hlsn, ha, natOk]
          refine ⟨fun j hj hj' e => absurd e hj', fun j hj hj' e => absurd e hj', ?_⟩
          exact yy _ _ (by simp) (by simp) (fun j hj => by simp [hj])
    · have c2i : (s.slots.length : Int) < M := by omega
      have c2n : s.slots.length < M := by omega
      simp [hp, h0, q1, c1i, c1n, c2i, c2n, c2, c3]
      iterate 6 (try (refine evS_sound (f := 24) ?_; simp [hp, h0, q1, c1i, c1n, c2i, c2n, c2, c3]))
      exact no (fun g => by have := g.2.2.1; omega) _ (by simp)
  · have c1i : (s.frames.length : Int) < K := by omega
    have c1n : s.frames.length < K := by omega
    simp [hp, h0, c1i, c1n]
    iterate 6 (try (refine evS_sound (f := 24) ?_; simp [hp, h0, c1i, c1n]))
    exact no (fun g => by have := g.2.1; omega) _ (by simp)

theorem cutG {H : Mem} {n p : Nat} {s : Sk} {ia ib : Option Nat} (h : St H n p s ia ib) (k m : Int) :
    RunQ Try.prog T.T 103 [.own p 0, I k, I m] H n (GutDone H n p s ia ib k m) := by
  cases ia with
  | none => cases ib with
    | none => exact cutG_00 (a := 0) (b := 0) h k m
    | some b => exact cutG_b0 (a := 0) h k m
  | some a => cases ib with
    | none => exact cutG_0a (b := 0) h k m
    | some b => exact cutG_ba h k m
end Go.Proofs.Ytfflojbgikfbmaa.Sta
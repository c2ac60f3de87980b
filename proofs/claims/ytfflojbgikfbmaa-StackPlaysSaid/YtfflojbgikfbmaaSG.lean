/-
  The document's own stack: Cut.
-/
import Derived.Test.YtfflojbgikfbmaaSF
namespace Go.Proofs.Ytfflojbgikfbmaa.Sta
open Go.Proofs.YtfflojbgikfbmaaW.Ah
set_option maxRecDepth 4000
set_option linter.unusedVariables false
set_option linter.unusedSimpArgs false
attribute [local simp] T.t3 T.t4 T.t5 T.t26 T.t39 T.t40 T.t41 T.t47 T.t49 T.t73 T.t77 T.t79 T.t128 T.t130 T.t132 T.t135 T.t150 Op.maxDepth List.range List.range.loop
attribute [-simp] appendAV cellsOf cellOk partOk
attribute [local simp] cellsOf_sc cellOk_sc partOk_sc cellsOf_own cellOk_own partOk_own cellsOf_osl cellOk_osl partOk_osl cellsOf_sh cellOk_sh partOk_sh cellsOf_ssl cellOk_ssl partOk_ssl cellsOf_esl cellOk_esl partOk_esl cellsOf_fn cellOk_fn partOk_fn cellsOf_omap cellOk_omap partOk_omap cellsOf_agg partOk_agg cellsOf_slv cellOk_slv partOk_slv

/-- Where the slots of a frame begin, if some frames are kept. -/
def Sk.cutBase (s : Sk) (k : Nat) : Nat := if 0 < k then (s.frames.getD (k - 1) (0, 0, 0)).2.2 else 0

def Sk.cuts (s : Sk) (k m : Int) : Prop := 0 ≤ k ∧ k ≤ s.frames.length ∧ m ≤ s.slots.length ∧ (s.cutBase k.toNat : Int) ≤ m

theorem Sk.Ok.cut {s : Sk} (h : s.Ok) {k m : Nat} (hk : k ≤ s.frames.length) (hm : m ≤ s.slots.length) (hb : s.cutBase k ≤ m) : Sk.Ok ⟨s.slots.take m, s.frames.take k, s.most, s.peak⟩ := by
  refine ⟨h.most, by have := h.slots; simp; omega, by have := h.frames; simp; omega, h.peak, ?_⟩
  have hl : (s.slots.take m).length = m := by simp; omega
  simp only [hl]
  refine Rising.take h.rising hk fun hh => ?_
  unfold Sk.cutBase at hb
  rw [if_pos hh.1] at hb
  simpa [hh.2] using hb

/-- Both parts stored. -/
theorem cutYes {H : Mem} {n p : Nat} {s : Sk} {ia ib : Option Nat} (h : Rt H n p s ia ib) {K M : Nat} {C : Cont} (hK : K ≤ s.frames.length) (hM : M ≤ s.slots.length) (hb : s.cutBase K ≤ M)
    (fin : ∀ (t : Nat → AV) H' n', t 6 = I 0 → (∃ ia' ib', RStep H n p ia ib H' n' ⟨s.slots.take M, s.frames.take K, s.most, s.peak⟩ ia' ib') → C .ret t H' n') :
    RunQ Try.prog T.T 111 [slc ia M none] (upd H p (some (.cells [slv ia s.slots.length, slv ib K, I s.peak, I s.most] 150))) n (fun r H' n' => ∃ o', r = slv o' M ∧ H' p = some (.cells [slv ia s.slots.length, slv ib K, I s.peak, I s.most] 150) ∧
      ∀ t H2, t 6 = I 0 → H2 = upd H' p (some (.cells [slv o' M, slv ib K, I s.peak, I s.most] 150)) → C .ret t H2 n') := by
  have hlp := h.lp
  have hok := h.ok
  have hmo := hok.most
  have hsl := hok.slots
  obtain ⟨H1, hH1⟩ : ∃ H1, H1 = upd H p (some (.cells [slv ia s.slots.length, slv ib K, I s.peak, I s.most] 150)) := ⟨_, rfl⟩
  rw [← hH1]
  have hokc := hok.cut hK hM hb
  have hml : (s.slots.take M).length = M := by simp; omega
  have hkl : (s.frames.take K).length = K := by simp; omega
  have ha1 : Own H1 40 eU ia (s.slots.take M) := (h.ha.take M).mono fun i hi => by rw [hH1]; exact upd_ne _ _ (h.la i hi).2
  have hwd := words (n := n) (c := none) ha1 (by simp; omega)
  rw [hml] at hwd
  obtain ⟨r, H', n', q1, o', rfl, w1, l1, f1, k1⟩ := hwd
  refine ⟨_, H', n', q1, o', rfl, by rw [k1 p hlp, hH1, upd_same], fun t H2 ht hH2 => fin t H2 n' ht ⟨o', ib, ?_⟩⟩
  subst hH2
  refine ⟨⟨?_, ?_, ?_, by omega, fun j hj => ?_, fun j hj => ?_, fun j hj hj' => ?_, hokc⟩, l1, fun j hj hjp _ _ => ?_, fun j hj => .inr (f1 j hj).1, fun j hj => .inl hj⟩
  · rw [upd_same, hml, hkl]
  · exact w1.mono fun j hj => upd_ne _ _ (by have := f1 j hj; omega)
  · exact (h.hb.take K).mono fun j hj => by rw [upd_ne _ _ (h.lb j hj).2, k1 j (h.lb j hj).1, hH1, upd_ne _ _ (h.lb j hj).2]
  · have := f1 j hj; exact ⟨this.2, by omega⟩
  · exact ⟨by have := (h.lb j hj).1; omega, (h.lb j hj).2⟩
  · have := f1 j hj; have := (h.lb j hj').1; omega
  · rw [upd_ne _ _ hjp, k1 j hj, hH1, upd_ne _ _ hjp]

def CutDone (H : Mem) (n p : Nat) (s : Sk) (ia ib : Option Nat) (k m : Int) (r : AV) (H' : Mem) (n' : Nat) : Prop :=
  (s.cuts k m → r = I 0 ∧ ∃ ia' ib', RStep H n p ia ib H' n' ⟨s.slots.take m.toNat, s.frames.take k.toNat, s.most, s.peak⟩ ia' ib') ∧ (¬ s.cuts k m → r = I 24 ∧ n ≤ n' ∧ ∀ j, j < n → H' j = H j)


theorem cutR_00 {H : Mem} {n p : Nat} {s : Sk} {a b : Nat} (h : Rt H n p s none none) (k m : Int) :
    RunQ Try.prog T.T 104 [.own p 0, I k, I m] H n (CutDone H n p s none none k m) := by
  have hlp := h.lp
  have hp := h.hp
  refine RunQ.ev 24 Try.func104 rfl rfl rfl rfl rfl fun C hr hn => ?_
  have no : ¬ s.cuts k m → ∀ t : Nat → AV, t 6 = I 24 → C .ret t H n := fun hc t ht => hr _ _ _ (I 24) (by simp [ht]) ⟨fun g => absurd g hc, fun _ => ⟨rfl, Nat.le_refl _, fun _ _ => rfl⟩⟩
  by_cases h0 : k < 0
  · simp [h0]
    iterate 5 (try (refine evS_sound (f := 24) ?_; simp [h0]))
    exact no (fun g => by have := g.1; omega) _ (by simp)
  obtain ⟨K, rfl⟩ := Int.eq_ofNat_of_zero_le (show 0 ≤ k by omega)
  have yes : ∀ M : Nat, m = M → K ≤ s.frames.length → M ≤ s.slots.length → s.cutBase K ≤ M → ∀ (t : Nat → AV) H' n', t 6 = I 0 → (∃ ia' ib', RStep H n p none none H' n' ⟨s.slots.take M, s.frames.take K, s.most, s.peak⟩ ia' ib') → C .ret t H' n' := by
    intro M hM hK hMs hb t H' n' ht hst
    subst hM
    exact hr _ _ _ (I 0) (by simp [ht]) ⟨fun _ => ⟨rfl, hst⟩, fun g => absurd (show s.cuts (K : Int) (M : Int) from ⟨by omega, by omega, by omega, by simpa using hb⟩) g⟩
  clear hr hn
  have hF : s.frames = [] := h.hb
  have hf0 : s.frames.length = 0 := by rw [hF]; rfl
  have hS : s.slots = [] := h.ha
  have hs0 : s.slots.length = 0 := by rw [hS]; rfl
  simp at hp
  by_cases c1 : K ≤ 0
  · have c1i : ¬ (0 : Int) < K := by omega
    have c1n : ¬ 0 < K := by omega
    have hK : K = 0 := by omega
    subst hK
    have q1 : ¬ (0 : Int) < 0 := by omega
    by_cases c2 : m ≤ (0 : Int)
    · have c2i : ¬ (0 : Int) < m := by omega
      by_cases c3 : m < 0
      · simp [hp, h0, q1, c2i, c2, c3, hf0, hF]
        iterate 5 (try (refine evS_sound (f := 24) ?_; simp [hp, h0, q1, c2i, c2, c3, hf0, hF]))
        exact no (fun g => by have := g.2.2.2; omega) _ (by simp)
      · obtain ⟨M, rfl⟩ := Int.eq_ofNat_of_zero_le (show 0 ≤ m by omega)
        have hM : M ≤ s.slots.length := by omega
        have c2n : ¬ 0 < M := by omega
        have hcb : s.cutBase 0 ≤ M := by simp [Sk.cutBase]
        have y := cutYes h (by omega) hM hcb (yes M rfl (by omega) hM hcb)
        have hM0 : M = 0 := by omega
        subst hM0
        simp [slc] at y
        simp [hp, h0, q1, c2i, c2, c2n, c3, hf0, hF, natOk]
        iterate 5 (try (refine evS_sound (f := 24) ?_; simp [hp, h0, q1, c2i, c2, c2n, c3, hf0, hF, natOk]))
        refine Stk.callS 999 y rfl rfl rfl (by simp) ?_
        rintro v H1 n1 ⟨o1, rfl, hp1, fin⟩
        simp [hp1]
        exact fin _ (by simp)
    · have c2i : (0 : Int) < m := by omega
      simp [hp, h0, q1, c1i, c1n, c2i, c2, hf0, hF]
      iterate 5 (try (refine evS_sound (f := 24) ?_; simp [hp, h0, q1, c1i, c1n, c2i, c2, hf0, hF]))
      exact no (fun g => by have := g.2.2.1; omega) _ (by simp)
  · have c1i : (0 : Int) < K := by omega
    have c1n : 0 < K := by omega
    simp [hp, h0, c1i, c1n]
    iterate 5 (try (refine evS_sound (f := 24) ?_; simp [hp, h0, c1i, c1n]))
    exact no (fun g => by have := g.2.1; omega) _ (by simp)

theorem cutR_0a {H : Mem} {n p : Nat} {s : Sk} {a b : Nat} (h : Rt H n p s (some a) none) (k m : Int) :
    RunQ Try.prog T.T 104 [.own p 0, I k, I m] H n (CutDone H n p s (some a) none k m) := by
  have hlp := h.lp
  have hp := h.hp
  refine RunQ.ev 24 Try.func104 rfl rfl rfl rfl rfl fun C hr hn => ?_
  have no : ¬ s.cuts k m → ∀ t : Nat → AV, t 6 = I 24 → C .ret t H n := fun hc t ht => hr _ _ _ (I 24) (by simp [ht]) ⟨fun g => absurd g hc, fun _ => ⟨rfl, Nat.le_refl _, fun _ _ => rfl⟩⟩
  by_cases h0 : k < 0
  · simp [h0]
    iterate 5 (try (refine evS_sound (f := 24) ?_; simp [h0]))
    exact no (fun g => by have := g.1; omega) _ (by simp)
  obtain ⟨K, rfl⟩ := Int.eq_ofNat_of_zero_le (show 0 ≤ k by omega)
  have yes : ∀ M : Nat, m = M → K ≤ s.frames.length → M ≤ s.slots.length → s.cutBase K ≤ M → ∀ (t : Nat → AV) H' n', t 6 = I 0 → (∃ ia' ib', RStep H n p (some a) none H' n' ⟨s.slots.take M, s.frames.take K, s.most, s.peak⟩ ia' ib') → C .ret t H' n' := by
    intro M hM hK hMs hb t H' n' ht hst
    subst hM
    exact hr _ _ _ (I 0) (by simp [ht]) ⟨fun _ => ⟨rfl, hst⟩, fun g => absurd (show s.cuts (K : Int) (M : Int) from ⟨by omega, by omega, by omega, by simpa using hb⟩) g⟩
  clear hr hn
  have hF : s.frames = [] := h.hb
  have hf0 : s.frames.length = 0 := by rw [hF]; rfl
  obtain ⟨zs, ha⟩ := h.ha
  have hap : ¬ p = a := fun e => (h.la a rfl).2 e.symm
  have hap' : ¬ a = p := fun e => hap e.symm
  simp at hp
  by_cases c1 : K ≤ 0
  · have c1i : ¬ (0 : Int) < K := by omega
    have c1n : ¬ 0 < K := by omega
    have hK : K = 0 := by omega
    subst hK
    have q1 : ¬ (0 : Int) < 0 := by omega
    by_cases c2 : m ≤ (s.slots.length : Int)
    · have c2i : ¬ (s.slots.length : Int) < m := by omega
      by_cases c3 : m < 0
      · simp [hp, h0, q1, c2i, c2, c3, hf0, hF]
        iterate 5 (try (refine evS_sound (f := 24) ?_; simp [hp, h0, q1, c2i, c2, c3, hf0, hF]))
        exact no (fun g => by have := g.2.2.2; omega) _ (by simp)
      · obtain ⟨M, rfl⟩ := Int.eq_ofNat_of_zero_le (show 0 ≤ m by omega)
        have hM : M ≤ s.slots.length := by omega
        have c2n : ¬ s.slots.length < M := by omega
        have hcb : s.cutBase 0 ≤ M := by simp [Sk.cutBase]
        have y := cutYes h (by omega) hM hcb (yes M rfl (by omega) hM hcb)
        have hls : (M : Int) ≤ s.slots.length + zs.length := by omega
        have hlsn : M ≤ s.slots.length + zs.length := by omega
        simp [slc] at y
        simp [hp, h0, q1, c2i, c2, c2n, c3, hf0, hF, hls, hlsn, ha, hap, hap', natOk]
        iterate 5 (try (refine evS_sound (f := 24) ?_; simp [hp, h0, q1, c2i, c2, c2n, c3, hf0, hF, hls, hlsn, ha, hap, hap', natOk]))
        refine Stk.callS 999 y rfl rfl rfl (by simp) ?_
        rintro v H1 n1 ⟨o1, rfl, hp1, fin⟩
        simp [hp1]
        exact fin _ (by simp)
    · have c2i : (s.slots.length : Int) < m := by omega
      simp [hp, h0, q1, c1i, c1n, c2i, c2, hf0, hF]
      iterate 5 (try (refine evS_sound (f := 24) ?_; simp [hp, h0, q1, c1i, c1n, c2i, c2, hf0, hF]))
      exact no (fun g => by have := g.2.2.1; omega) _ (by simp)
  · have c1i : (0 : Int) < K := by omega
    have c1n : 0 < K := by omega
    simp [hp, h0, c1i, c1n]
    iterate 5 (try (refine evS_sound (f := 24) ?_; simp [hp, h0, c1i, c1n]))
    exact no (fun g => by have := g.2.1; omega) _ (by simp)

theorem cutR_b0 {H : Mem} {n p : Nat} {s : Sk} {a b : Nat} (h : Rt H n p s none (some b)) (k m : Int) :
    RunQ Try.prog T.T 104 [.own p 0, I k, I m] H n (CutDone H n p s none (some b) k m) := by
  have hlp := h.lp
  have hp := h.hp
  refine RunQ.ev 24 Try.func104 rfl rfl rfl rfl rfl fun C hr hn => ?_
  have no : ¬ s.cuts k m → ∀ t : Nat → AV, t 6 = I 24 → C .ret t H n := fun hc t ht => hr _ _ _ (I 24) (by simp [ht]) ⟨fun g => absurd g hc, fun _ => ⟨rfl, Nat.le_refl _, fun _ _ => rfl⟩⟩
  by_cases h0 : k < 0
  · simp [h0]
    iterate 5 (try (refine evS_sound (f := 24) ?_; simp [h0]))
    exact no (fun g => by have := g.1; omega) _ (by simp)
  obtain ⟨K, rfl⟩ := Int.eq_ofNat_of_zero_le (show 0 ≤ k by omega)
  have yes : ∀ M : Nat, m = M → K ≤ s.frames.length → M ≤ s.slots.length → s.cutBase K ≤ M → ∀ (t : Nat → AV) H' n', t 6 = I 0 → (∃ ia' ib', RStep H n p none (some b) H' n' ⟨s.slots.take M, s.frames.take K, s.most, s.peak⟩ ia' ib') → C .ret t H' n' := by
    intro M hM hK hMs hb t H' n' ht hst
    subst hM
    exact hr _ _ _ (I 0) (by simp [ht]) ⟨fun _ => ⟨rfl, hst⟩, fun g => absurd (show s.cuts (K : Int) (M : Int) from ⟨by omega, by omega, by omega, by simpa using hb⟩) g⟩
  clear hr hn
  obtain ⟨ys, hb⟩ := h.hb
  have hfr := h.ok.frames
  have hbp : ¬ p = b := fun e => (h.lb b rfl).2 e.symm
  have hbp' : ¬ b = p := fun e => hbp e.symm
  have hS : s.slots = [] := h.ha
  have hs0 : s.slots.length = 0 := by rw [hS]; rfl
  simp at hp
  by_cases c1 : K ≤ s.frames.length
  · have c1i : ¬ (s.frames.length : Int) < K := by omega
    have c1n : ¬ s.frames.length < K := by omega
    have q1 : ¬ (s.frames.length : Int) < 0 := by omega
    by_cases c2 : m ≤ (0 : Int)
    · have c2i : ¬ (0 : Int) < m := by omega
      by_cases c0 : K = 0
      · subst c0
        by_cases c3 : m < 0
        · simp [hp, h0, q1, c2i, c2, c3]
          iterate 5 (try (refine evS_sound (f := 24) ?_; simp [hp, h0, q1, c2i, c2, c3]))
          exact no (fun g => by have := g.2.2.2; omega) _ (by simp)
        · obtain ⟨M, rfl⟩ := Int.eq_ofNat_of_zero_le (show 0 ≤ m by omega)
          have hM : M ≤ s.slots.length := by omega
          have c2n : ¬ 0 < M := by omega
          have hcb : s.cutBase 0 ≤ M := by simp [Sk.cutBase]
          have y := cutYes h (by omega) hM hcb (yes M rfl (by omega) hM hcb)
          have hlf : (0 : Int) ≤ max s.frames.length ((s.frames.length * 3 + ys.length) / 3) := by omega
          have hlfn : 0 ≤ max s.frames.length ((s.frames.length * 3 + ys.length) / 3) := by omega
          have hM0 : M = 0 := by omega
          subst hM0
          simp [slc] at y
          simp [hp, h0, q1, c2i, c2, c2n, c3, hlf, hlfn, hb, hbp, hbp', natOk]
          iterate 5 (try (refine evS_sound (f := 24) ?_; simp [hp, h0, q1, c2i, c2, c2n, c3, hlf, hlfn, hb, hbp, hbp', natOk]))
          refine Stk.callS 999 y rfl rfl rfl (by simp) ?_
          rintro v H1 n1 ⟨o1, rfl, hp1, fin⟩
          simp [hp1]
          exact fin _ (by simp)
      · have hk1 : K - 1 < s.frames.length := by omega
        have hk1i : ((K - 1 : Nat) : Int) < s.frames.length := by omega
        have c0n : 0 < K := by omega
        have c0i : (0 : Int) < K := by omega
        have hw := wrap_pred (a := K) (by omega) (by omega)
        have hce := cell_own (e := eF) (z := 3) s.frames ys (K - 1) 2 hk1 (by omega)
        have hcb : s.cutBase K = (s.frames[K - 1]).2.2 := by unfold Sk.cutBase; simp [c0n, hk1]
        simp only [eF] at hce
        rw [← hcb] at hce
        simp at hce
        by_cases c3 : m < s.cutBase K
        · simp [hp, h0, c1i, c1n, c2i, c2, c0, c0n, c0i, hw, hk1, hk1i, hb, hce, partOf, c3]
          iterate 5 (try (refine evS_sound (f := 24) ?_; simp [hp, h0, c1i, c1n, c2i, c2, c0, c0n, c0i, hw, hk1, hk1i, hb, hce, partOf, c3]))
          exact no (fun g => by have := g.2.2.2; simp at this; omega) _ (by simp)
        · obtain ⟨M, rfl⟩ := Int.eq_ofNat_of_zero_le (show 0 ≤ m by omega)
          have hM : M ≤ s.slots.length := by omega
          have c2n : ¬ 0 < M := by omega
          have hcM : s.cutBase K ≤ M := by omega
          have hcMn : ¬ M < s.cutBase K := by omega
          have y := cutYes h c1 hM hcM (yes M rfl c1 hM hcM)
          have hlf : (K : Int) ≤ max s.frames.length ((s.frames.length * 3 + ys.length) / 3) := by omega
          have hlfn : K ≤ max s.frames.length ((s.frames.length * 3 + ys.length) / 3) := by omega
          have hM0 : M = 0 := by omega
          subst hM0
          simp [slc] at y
          simp [hp, h0, c2n, c1i, c1n, c2i, c2, c0, c0n, c0i, hw, hk1, hk1i, hb, hce, partOf, c3, hcMn, hlf, hlfn, hb, hbp, hbp', natOk]
          iterate 5 (try (refine evS_sound (f := 24) ?_; simp [hp, h0, c2n, c1i, c1n, c2i, c2, c0, c0n, c0i, hw, hk1, hk1i, hb, hce, partOf, c3, hcMn, hlf, hlfn, hb, hbp, hbp', natOk]))
          refine Stk.callS 999 y rfl rfl rfl (by simp) ?_
          rintro v H1 n1 ⟨o1, rfl, hp1, fin⟩
          simp [hp1]
          exact fin _ (by simp)
    · have c2i : (0 : Int) < m := by omega
      simp [hp, h0, q1, c1i, c1n, c2i, c2]
      iterate 5 (try (refine evS_sound (f := 24) ?_; simp [hp, h0, q1, c1i, c1n, c2i, c2]))
      exact no (fun g => by have := g.2.2.1; omega) _ (by simp)
  · have c1i : (s.frames.length : Int) < K := by omega
    have c1n : s.frames.length < K := by omega
    simp [hp, h0, c1i, c1n]
    iterate 5 (try (refine evS_sound (f := 24) ?_; simp [hp, h0, c1i, c1n]))
    exact no (fun g => by have := g.2.1; omega) _ (by simp)

theorem cutR_ba {H : Mem} {n p : Nat} {s : Sk} {a b : Nat} (h : Rt H n p s (some a) (some b)) (k m : Int) :
    RunQ Try.prog T.T 104 [.own p 0, I k, I m] H n (CutDone H n p s (some a) (some b) k m) := by
  have hlp := h.lp
  have hp := h.hp
  refine RunQ.ev 24 Try.func104 rfl rfl rfl rfl rfl fun C hr hn => ?_
  have no : ¬ s.cuts k m → ∀ t : Nat → AV, t 6 = I 24 → C .ret t H n := fun hc t ht => hr _ _ _ (I 24) (by simp [ht]) ⟨fun g => absurd g hc, fun _ => ⟨rfl, Nat.le_refl _, fun _ _ => rfl⟩⟩
  by_cases h0 : k < 0
  · simp [h0]
    iterate 5 (try (refine evS_sound (f := 24) ?_; simp [h0]))
    exact no (fun g => by have := g.1; omega) _ (by simp)
  obtain ⟨K, rfl⟩ := Int.eq_ofNat_of_zero_le (show 0 ≤ k by omega)
  have yes : ∀ M : Nat, m = M → K ≤ s.frames.length → M ≤ s.slots.length → s.cutBase K ≤ M → ∀ (t : Nat → AV) H' n', t 6 = I 0 → (∃ ia' ib', RStep H n p (some a) (some b) H' n' ⟨s.slots.take M, s.frames.take K, s.most, s.peak⟩ ia' ib') → C .ret t H' n' := by
    intro M hM hK hMs hb t H' n' ht hst
    subst hM
    exact hr _ _ _ (I 0) (by simp [ht]) ⟨fun _ => ⟨rfl, hst⟩, fun g => absurd (show s.cuts (K : Int) (M : Int) from ⟨by omega, by omega, by omega, by simpa using hb⟩) g⟩
  clear hr hn
  obtain ⟨ys, hb⟩ := h.hb
  have hfr := h.ok.frames
  have hbp : ¬ p = b := fun e => (h.lb b rfl).2 e.symm
  have hbp' : ¬ b = p := fun e => hbp e.symm
  obtain ⟨zs, ha⟩ := h.ha
  have hap : ¬ p = a := fun e => (h.la a rfl).2 e.symm
  have hap' : ¬ a = p := fun e => hap e.symm
  simp at hp
  by_cases c1 : K ≤ s.frames.length
  · have c1i : ¬ (s.frames.length : Int) < K := by omega
    have c1n : ¬ s.frames.length < K := by omega
    have q1 : ¬ (s.frames.length : Int) < 0 := by omega
    by_cases c2 : m ≤ (s.slots.length : Int)
    · have c2i : ¬ (s.slots.length : Int) < m := by omega
      by_cases c0 : K = 0
      · subst c0
        by_cases c3 : m < 0
        · simp [hp, h0, q1, c2i, c2, c3]
          iterate 5 (try (refine evS_sound (f := 24) ?_; simp [hp, h0, q1, c2i, c2, c3]))
          exact no (fun g => by have := g.2.2.2; omega) _ (by simp)
        · obtain ⟨M, rfl⟩ := Int.eq_ofNat_of_zero_le (show 0 ≤ m by omega)
          have hM : M ≤ s.slots.length := by omega
          have c2n : ¬ s.slots.length < M := by omega
          have hcb : s.cutBase 0 ≤ M := by simp [Sk.cutBase]
          have y := cutYes h (by omega) hM hcb (yes M rfl (by omega) hM hcb)
          have hlf : (0 : Int) ≤ max s.frames.length ((s.frames.length * 3 + ys.length) / 3) := by omega
          have hlfn : 0 ≤ max s.frames.length ((s.frames.length * 3 + ys.length) / 3) := by omega
          have hls : (M : Int) ≤ s.slots.length + zs.length := by omega
          have hlsn : M ≤ s.slots.length + zs.length := by omega
          simp [slc] at y
          simp [hp, h0, q1, c2i, c2, c2n, c3, hlf, hlfn, hb, hbp, hbp', hls, hlsn, ha, hap, hap', natOk]
          iterate 5 (try (refine evS_sound (f := 24) ?_; simp [hp, h0, q1, c2i, c2, c2n, c3, hlf, hlfn, hb, hbp, hbp', hls, hlsn, ha, hap, hap', natOk]))
          refine Stk.callS 999 y rfl rfl rfl (by simp) ?_
          rintro v H1 n1 ⟨o1, rfl, hp1, fin⟩
          simp [hp1]
          exact fin _ (by simp)
      · have hk1 : K - 1 < s.frames.length := by omega
        have hk1i : ((K - 1 : Nat) : Int) < s.frames.length := by omega
        have c0n : 0 < K := by omega
        have c0i : (0 : Int) < K := by omega
        have hw := wrap_pred (a := K) (by omega) (by omega)
        have hce := cell_own (e := eF) (z := 3) s.frames ys (K - 1) 2 hk1 (by omega)
        have hcb : s.cutBase K = (s.frames[K - 1]).2.2 := by unfold Sk.cutBase; simp [c0n, hk1]
        simp only [eF] at hce
        rw [← hcb] at hce
        simp at hce
        by_cases c3 : m < s.cutBase K
        · simp [hp, h0, c1i, c1n, c2i, c2, c0, c0n, c0i, hw, hk1, hk1i, hb, hce, partOf, c3]
          iterate 5 (try (refine evS_sound (f := 24) ?_; simp [hp, h0, c1i, c1n, c2i, c2, c0, c0n, c0i, hw, hk1, hk1i, hb, hce, partOf, c3]))
          exact no (fun g => by have := g.2.2.2; simp at this; omega) _ (by simp)
        · obtain ⟨M, rfl⟩ := Int.eq_ofNat_of_zero_le (show 0 ≤ m by omega)
          have hM : M ≤ s.slots.length := by omega
          have c2n : ¬ s.slots.length < M := by omega
          have hcM : s.cutBase K ≤ M := by omega
          have hcMn : ¬ M < s.cutBase K := by omega
          have y := cutYes h c1 hM hcM (yes M rfl c1 hM hcM)
          have hlf : (K : Int) ≤ max s.frames.length ((s.frames.length * 3 + ys.length) / 3) := by omega
          have hlfn : K ≤ max s.frames.length ((s.frames.length * 3 + ys.length) / 3) := by omega
          have hls : (M : Int) ≤ s.slots.length + zs.length := by omega
          have hlsn : M ≤ s.slots.length + zs.length := by omega
          simp [slc] at y
          simp [hp, h0, c2n, c1i, c1n, c2i, c2, c0, c0n, c0i, hw, hk1, hk1i, hb, hce, partOf, c3, hcMn, hlf, hlfn, hb, hbp, hbp', hls, hlsn, ha, hap, hap', natOk]
          iterate 5 (try (refine evS_sound (f := 24) ?_; simp [hp, h0, c2n, c1i, c1n, c2i, c2, c0, c0n, c0i, hw, hk1, hk1i, hb, hce, partOf, c3, hcMn, hlf, hlfn, hb, hbp, hbp', hls, hlsn, ha, hap, hap', natOk]))
          refine Stk.callS 999 y rfl rfl rfl (by simp) ?_
          rintro v H1 n1 ⟨o1, rfl, hp1, fin⟩
          simp [hp1]
          exact fin _ (by simp)
    · have c2i : (s.slots.length : Int) < m := by omega
      simp [hp, h0, q1, c1i, c1n, c2i, c2]
      iterate 5 (try (refine evS_sound (f := 24) ?_; simp [hp, h0, q1, c1i, c1n, c2i, c2]))
      exact no (fun g => by have := g.2.2.1; omega) _ (by simp)
  · have c1i : (s.frames.length : Int) < K := by omega
    have c1n : s.frames.length < K := by omega
    simp [hp, h0, c1i, c1n]
    iterate 5 (try (refine evS_sound (f := 24) ?_; simp [hp, h0, c1i, c1n]))
    exact no (fun g => by have := g.2.1; omega) _ (by simp)

theorem cutR {H : Mem} {n p : Nat} {s : Sk} {ia ib : Option Nat} (h : Rt H n p s ia ib) (k m : Int) :
    RunQ Try.prog T.T 104 [.own p 0, I k, I m] H n (CutDone H n p s ia ib k m) := by
  cases ia with
  | none => cases ib with
    | none => exact cutR_00 (a := 0) (b := 0) h k m
    | some b => exact cutR_b0 (a := 0) h k m
  | some a => cases ib with
    | none => exact cutR_0a (b := 0) h k m
    | some b => exact cutR_ba h k m
end Go.Proofs.Ytfflojbgikfbmaa.Sta
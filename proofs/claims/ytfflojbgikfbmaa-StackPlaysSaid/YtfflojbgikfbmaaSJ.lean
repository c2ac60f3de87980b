/-
  The document's own stack: Dump, Words, Same.
-/
import Derived.Test.YtfflojbgikfbmaaSI
namespace Go.Proofs.Ytfflojbgikfbmaa.Sta
open Go.Proofs.YtfflojbgikfbmaaW.Ah
set_option maxRecDepth 4000
set_option linter.unusedVariables false
set_option linter.unusedSimpArgs false
attribute [local simp] T.t3 T.t4 T.t5 T.t26 T.t39 T.t40 T.t41 T.t47 T.t49 T.t73 T.t77 T.t79 T.t128 T.t130 T.t132 T.t135 T.t150 Op.maxDepth List.range List.range.loop
attribute [-simp] appendAV cellsOf cellOk partOk
attribute [local simp] cellsOf_sc cellOk_sc partOk_sc cellsOf_own cellOk_own partOk_own cellsOf_osl cellOk_osl partOk_osl cellsOf_sh cellOk_sh partOk_sh cellsOf_ssl cellOk_ssl partOk_ssl cellsOf_esl cellOk_esl partOk_esl cellsOf_fn cellOk_fn partOk_fn cellsOf_omap cellOk_omap partOk_omap cellsOf_agg partOk_agg cellsOf_slv cellOk_slv partOk_slv

theorem encs_okF (l : List (Int × Int × Nat)) : (encs eF l).all cellOk = true := by
  rw [List.all_eq_true]
  intro x hx
  simp only [encs, List.mem_flatMap] at hx
  obtain ⟨y, _, hy⟩ := hx
  simp at hy
  rcases hy with rfl | rfl | rfl <;> rfl

theorem elems_slF {H : Mem} {o : Option Nat} {xs : List (Int × Int × Nat)} (h : Own H 79 eF o xs) : elemsOf H 3 (slv o xs.length) = some (xs.length, encs eF xs) := by
  cases o with
  | none => have h0 : xs = [] := h; subst h0; rfl
  | some i =>
    obtain ⟨ys, h⟩ := h
    simp only [slv, elemsOf, h]
    rw [if_pos (by simp [length_encs])]
    simp only [List.drop_zero]
    rw [show xs.length * 3 = (encs eF xs).length by simp [length_encs], List.take_left' rfl]

theorem dumpR {H : Mem} {n p : Nat} {s : Sk} {ia ib : Option Nat} (h : Rt H n p s ia ib) :
    RunQ Try.prog T.T 48 [.own p 0] H n (fun r H' n' => ∃ o1 o2, r = .agg [slv o1 s.slots.length, slv o2 s.frames.length, I s.peak] ∧ Own H' 40 eU o1 s.slots ∧ Own H' 79 eF o2 s.frames ∧ n ≤ n' ∧ (∀ i, o1 = some i → n ≤ i ∧ i < n') ∧ (∀ i, o2 = some i → n ≤ i ∧ i < n') ∧ ∀ j, j < n → H' j = H j) := by
  have hp := h.hp
  have hlp := h.lp
  have hok := h.ok
  have hmo := hok.most
  have hsl := hok.slots
  have hlp1 : p < n + 1 := by omega
  have hpn : ¬ p = n := by omega
  have hpn' : ¬ n = p := by omega
  obtain ⟨Z, hZ⟩ : ∃ Z : Mem, Z = upd H n (some (.cells [.sc (.slice none 0 0), .sc (.slice none 0 0), I 0] 49)) := ⟨_, rfl⟩
  have hZk : ∀ j, j < n → Z j = H j := fun j hj => by rw [hZ, upd_ne _ _ (by omega)]
  have hz := h.far (n' := n + 1) (by omega) hZk
  have hpz : Z p = _ := hz.hp
  have hzn : Z n = some (.cells [.sc (.slice none 0 0), .sc (.slice none 0 0), I 0] 49) := by rw [hZ, upd_same]
  have hwd := words (n := n + 1) (c := none) hz.ha (by omega)
  rw [slc_slv] at hwd
  obtain ⟨v1, hv1⟩ : ∃ v, v = slv ia s.slots.length := ⟨_, rfl⟩
  obtain ⟨v2, hv2⟩ : ∃ v, v = slv ib s.frames.length := ⟨_, rfl⟩
  have c1 : cellsOf v1 = [v1] := by rw [hv1, cellsOf_slv]
  have c1k : cellOk v1 = true := by rw [hv1, cellOk_slv]
  have c1p : partOk v1 = true := by rw [hv1, partOk_slv]
  have c2 : cellsOf v2 = [v2] := by rw [hv2, cellsOf_slv]
  have c2k : cellOk v2 = true := by rw [hv2, cellOk_slv]
  have c2p : partOk v2 = true := by rw [hv2, partOk_slv]
  refine RunQ.ev 999 Try.func48 rfl rfl rfl rfl rfl fun C hr hn => ?_
  simp
  rw [← hZ]
  refine Stk.regionD 999 [.rd [], .rd [], .rd [], .rd [], .rd [p], .mem [] (n + 1), .rd [], .rd [], .rd [], .rd [], .rd [p], .rd [], .mem [] (n + 1), .mem [] (n + 1)] (some 12) (by kernel_rfl) (by rfl) (by rfl) (by simp [below, *]) rfl ?_
  simp [hpz, ← hv1, ← hv2, c1, c1k, c1p, c2, c2k, c2p]
  rw [← hv1] at hwd
  refine Stk.callSD 999 rfl ?_ hwd rfl rfl rfl rfl (by simp) ?_
  · rintro v H' n' ⟨o', rfl, q1, q2, q3, q4⟩ j hj _
    exact q4 j hj
  rintro v H1 n1 ⟨o1, rfl, q1, q2, q3, q4⟩
  have hp1 : H1 p = _ := (q4 p (by omega)).trans hpz
  have hn1 : H1 n = _ := (q4 n (by omega)).trans hzn
  have h1 := hz.far q2 q4
  have hpn1 : ¬ p = n1 := by omega
  have hnn1 : ¬ n = n1 := by omega
  have hnn1' : ¬ n1 = n := by omega
  rw [← hv1, ← hv2] at hp1
  simp [hp1, c1, c1k, c1p, c2, c2k, c2p, hpn1]
  refine ⟨fun j hj e => absurd e (by omega), fun j hj e => absurd e (by omega), ?_⟩
  -- the frames
  obtain ⟨Y, hY⟩ : ∃ Y : Mem, Y = upd (upd H1 n1 (some (.cells [.sc (.slice none 0 0), .sc (.slice none 0 0), I 0] 49))) n1 (some (.cells [slv o1 s.slots.length, .sc (.slice none 0 0), I s.peak] 49)) := ⟨_, rfl⟩
  have hYk : ∀ j, j < n1 → Y j = H1 j := fun j hj => by rw [hY, upd_ne _ _ (by omega), upd_ne _ _ (by omega)]
  have hy := h1.far (n' := n1 + 1) (by omega) hYk
  have hYn : Y n1 = some (.cells [slv o1 s.slots.length, .sc (.slice none 0 0), I s.peak] 49) := by rw [hY, upd_same]
  have hYp : Y p = _ := hy.hp
  obtain ⟨o2, H2, n2, e1, w2, l2, f2, k2⟩ := append_own (e := eF) (z := 3) T.t47 rfl T.t79 rfl (by decide) rfl (by decide) (H := Y) (n := n1 + 1) (o := none) (xs := []) rfl (fun i e => by cases e) (y := slv ib s.frames.length) s.frames (elems_slF hy.hb) (encs_okF s.frames) (by simp [roomMax]; have := hok.frames; omega) (by simp [roomMax]; have := hok.frames; omega)
  simp only [slv_none, List.nil_append] at e1 w2
  rw [← hv1, ← hv2] at hYp
  rw [← hv2] at e1
  rw [← hY]
  obtain ⟨v3, hv3⟩ : ∃ v, v = slv o2 s.frames.length := ⟨_, rfl⟩
  have c3 : cellsOf v3 = [v3] := by rw [hv3, cellsOf_slv]
  have c3k : cellOk v3 = true := by rw [hv3, cellOk_slv]
  have c3p : partOk v3 = true := by rw [hv3, partOk_slv]
  have h2n1 : H2 n1 = _ := (k2 n1 (by omega) (by simp)).trans hYn
  have h2n : H2 n = _ := ((k2 n (by omega) (by simp)).trans (hYk n (by omega))).trans hn1
  rw [← hv3] at e1
  refine Stk.regionD 999 [.rd [], .rd [n1], .rd [], .rd [], .rd [], .rd [], .rd [p], .mem [] (n1 + 1), .rd [], .mem [n1] (n1 + 1)] none (by kernel_rfl) (by rfl) (by rfl) (by simp [below]; omega) rfl ?_
  simp [hYn, hYp, e1, h2n1, h2n, hnn1, c2, c2k, c2p, c3, c3k, c3p]
  refine ⟨fun j hj => k2 j hj (by simp), fun j hj hj' e => absurd e hj', ?_⟩
  refine hr _ _ _ (.agg [slv o1 s.slots.length, v3, I s.peak]) (by simp) ⟨o1, o2, by rw [hv3], q1.mono fun i hi => ?_, w2.mono fun i hi => ?_, by omega, fun i hi => by have := q3 i hi; omega, fun i hi => by have := f2 i hi; have h3 := this.1.resolve_left (fun e => by cases e); exact ⟨by omega, this.2⟩, fun j hj => ?_⟩
  · have := q3 i hi
    rw [upd_ne _ _ (by omega), upd_ne _ _ (by omega), k2 i (by omega) (by simp), hYk i (by omega)]
  · have := f2 i hi
    have h3 := this.1.resolve_left (fun e => by cases e)
    rw [upd_ne _ _ (by omega), upd_ne _ _ (by omega)]
  · rw [upd_ne _ _ (by omega), upd_ne _ _ (by omega), k2 j (by omega) (by simp), hYk j (by omega), q4 j (by omega), hZk j hj]

theorem wordsEq {H : Mem} {n : Nat} {o1 o2 c1 c2 : Option Nat} {xs : List Int} (h1 : Own H 40 eU o1 xs) (h2 : Own H 40 eU o2 xs) (hl : xs.length ≤ 65536) :
    RunQ Try.prog T.T 105 [slc o1 xs.length c1, slc o2 xs.length c2] H n (fun r H' n' => r = B true ∧ H' = H ∧ n' = n) := by
  refine RunQ.ev 999 Try.func105 rfl rfl rfl rfl rfl fun C hr hn => ?_
  have fin : ∀ t : Nat → AV, t 4 = B true → C .ret t H n := fun t ht => hr _ _ _ (B true) (by simp [ht]) ⟨rfl, rfl, rfl⟩
  by_cases h0 : xs.length = 0
  · have hx : xs = [] := List.length_eq_zero_iff.1 h0
    cases o1 with
    | none =>
      cases o2 with
      | none =>
        simp [slc, h0, hx]
        refine Stk.loop 999 (fun μ t H2 n2 => t 0 = .sc (.slice none 0 0) ∧ t 5 = I 0 ∧ H2 = H ∧ n2 = n) 0 ⟨by simp, by simp, rfl, rfl⟩ ?_
        rintro J hJ μ t H2 n2 ⟨t0, t5, rfl, rfl⟩
        simp [t0, t5]
        exact fin _ (by simp)
      | some b =>
        simp [slc, h0, hx]
        refine Stk.loop 999 (fun μ t H2 n2 => t 0 = .sc (.slice none 0 0) ∧ t 5 = I 0 ∧ H2 = H ∧ n2 = n) 0 ⟨by simp, by simp, rfl, rfl⟩ ?_
        rintro J hJ μ t H2 n2 ⟨t0, t5, rfl, rfl⟩
        simp [t0, t5]
        exact fin _ (by simp)
    | some a =>
      cases o2 with
      | none =>
        simp [slc, h0, hx]
        refine Stk.loop 999 (fun μ t H2 n2 => t 0 = .osl a 0 0 c1 ∧ t 5 = I 0 ∧ H2 = H ∧ n2 = n) 0 ⟨by simp, by simp, rfl, rfl⟩ ?_
        rintro J hJ μ t H2 n2 ⟨t0, t5, rfl, rfl⟩
        simp [t0, t5]
        exact fin _ (by simp)
      | some b =>
        simp [slc, h0, hx]
        refine Stk.loop 999 (fun μ t H2 n2 => t 0 = .osl a 0 0 c1 ∧ t 5 = I 0 ∧ H2 = H ∧ n2 = n) 0 ⟨by simp, by simp, rfl, rfl⟩ ?_
        rintro J hJ μ t H2 n2 ⟨t0, t5, rfl, rfl⟩
        simp [t0, t5]
        exact fin _ (by simp)
  · cases o1 with
    | none => have hx : xs = [] := h1; rw [hx] at h0; simp at h0
    | some a =>
      cases o2 with
      | none => have hx : xs = [] := h2; rw [hx] at h0; simp at h0
      | some b =>
        obtain ⟨r1, h1⟩ := h1
        obtain ⟨r2, h2⟩ := h2
        simp [slc]
        refine Stk.loop 999 (fun μ t H2 n2 => H2 = H ∧ n2 = n ∧ ∃ m : Nat, m ≤ xs.length ∧ μ = xs.length - m ∧ t 0 = .osl a 0 xs.length c1 ∧ t 1 = .osl b 0 xs.length c2 ∧ t 5 = I m) xs.length ⟨rfl, rfl, 0, Nat.zero_le _, rfl, by simp, by simp, by simp⟩ ?_
        rintro J hJ μ t H2 n2 ⟨rfl, rfl, m, hm, rfl, t0, t1, t5⟩
        simp [t0, t1, t5]
        refine ⟨fun hlt => ?_, fun hge => ?_⟩
        · have e1 := cell_own (e := eU) (z := 1) xs r1 m 0 hlt (by omega)
          have e2 := cell_own (e := eU) (z := 1) xs r2 m 0 hlt (by omega)
          have hw := wrap_succ m (by omega)
          simp at e1 e2
          refine Stk.regionD 999 [.rd [], .rd [], .rd [], .rd [a], .rd [], .rd [], .rd [], .rd [b], .rd []] none (by kernel_rfl) (by rfl) (by rfl) (by simp [below]) rfl ?_
          simp [t0, t1, t5, hlt, h1, h2, e1, e2, partOf, hw]
          exact ⟨xs.length - (m + 1), by omega, hJ _ _ _ _ ⟨rfl, rfl, m + 1, by omega, rfl, by simp [t0], by simp [t1], by simp⟩⟩
        · exact fin _ (by simp)

theorem sameR {H : Mem} {n : Nat} {o1 o2 c1 f1 f2 : Option Nat} {xs : List Int} {fs : List (Int × Int × Nat)} {k : Int} (h1 : Own H 40 eU o1 xs) (h2 : Own H 40 eU o2 xs) (g1 : Own H 79 eF f1 fs) (g2 : Own H 79 eF f2 fs) (hl : xs.length ≤ 65536) (hf : fs.length ≤ 65536)
    (b1 : ∀ i, o1 = some i → i < n) (b2 : ∀ i, o2 = some i → i < n) (d1 : ∀ i, f1 = some i → i < n) (d2 : ∀ i, f2 = some i → i < n) :
    RunQ Try.prog T.T 47 [.agg [slc o1 xs.length c1, slv f1 fs.length, I k], .agg [slv o2 xs.length, slv f2 fs.length, I k]] H n (fun r _ _ => r = B true) := by
  obtain ⟨v1, hv1⟩ : ∃ v, v = slc o1 xs.length c1 := ⟨_, rfl⟩
  obtain ⟨v2, hv2⟩ : ∃ v, v = slv o2 xs.length := ⟨_, rfl⟩
  have c1 : cellsOf v1 = [v1] := by rw [hv1]; cases o1 <;> rfl
  have c1k : cellOk v1 = true := by rw [hv1]; cases o1 <;> rfl
  have c1p : partOk v1 = true := by rw [hv1]; cases o1 <;> rfl
  have c2 : cellsOf v2 = [v2] := by rw [hv2]; cases o2 <;> rfl
  have c2k : cellOk v2 = true := by rw [hv2]; cases o2 <;> rfl
  have c2p : partOk v2 = true := by rw [hv2]; cases o2 <;> rfl
  have words2 : ∀ (H2 : Mem) (m : Nat), (∀ j, j < n → H2 j = H j) → RunQ Try.prog T.T 105 [v1, v2] H2 m (fun r H' n' => r = B true ∧ H' = H2 ∧ n' = m) := by
    intro H2 m hk
    rw [hv1, hv2, ← slc_slv o2]
    exact wordsEq (h1.mono fun i hi => hk i (b1 i hi)) (h2.mono fun i hi => hk i (b2 i hi)) hl
  rw [← hv1, ← hv2]
  have nn : ¬ n = n + 1 := by omega
  have nn' : ¬ n + 1 = n := by omega
  refine RunQ.ev 40 Try.func47 rfl rfl rfl rfl rfl fun C hr hn => ?_
  have fin : ∀ (t : Nat → AV) H2 n2, t 4 = B true → C .ret t H2 n2 := fun t H2 n2 ht => hr _ _ _ (B true) (by simp [ht]) rfl
  clear hr hn
  by_cases hz : fs = []
  · have hf0 := hz
    cases f1 with
    | none =>
      cases f2 with
      | none =>
        simp [c1, c1k, c1p, c2, c2k, c2p, nn, nn', hf0]
        iterate 4 (try (refine evS_sound (f := 24) ?_; simp [c1, c1k, c1p, c2, c2k, c2p, nn, nn', hf0]))
        obtain ⟨Y, hY⟩ : ∃ Y : Mem, Y = upd (upd H n (some (.cells [v1, .sc (.slice none 0 0), I k] 49))) (n + 1) (some (.cells [v2, .sc (.slice none 0 0), I k] 49)) := ⟨_, rfl⟩
        have yn : Y n = some (.cells [v1, .sc (.slice none 0 0), I k] 49) := by rw [hY, upd_ne _ _ (by omega), upd_same]
        rw [← hY]
        refine Stk.callS 30 (words2 Y (n + 1 + 1) (fun j hj => by rw [hY, upd_ne _ _ (by omega), upd_ne _ _ (by omega)])) rfl rfl rfl (by simp) ?_
        rintro v H3 n3 ⟨rfl, rfl, rfl⟩
        simp
        refine Stk.loop 40 (fun μ t H2 n2 => t 2 = .own n 0 ∧ t 5 = I 0 ∧ H2 = H3) 0 ⟨by simp, by simp, rfl⟩ ?_
        rintro J hJ μ t H2 n2 ⟨t2, t5, rfl⟩
        simp [t2, t5, yn, c1, c1k, c1p]
        exact fin _ _ _ (by simp)
      | some y =>
        simp [c1, c1k, c1p, c2, c2k, c2p, nn, nn', hf0]
        iterate 4 (try (refine evS_sound (f := 24) ?_; simp [c1, c1k, c1p, c2, c2k, c2p, nn, nn', hf0]))
        obtain ⟨Y, hY⟩ : ∃ Y : Mem, Y = upd (upd H n (some (.cells [v1, .sc (.slice none 0 0), I k] 49))) (n + 1) (some (.cells [v2, .osl y 0 0 none, I k] 49)) := ⟨_, rfl⟩
        have yn : Y n = some (.cells [v1, .sc (.slice none 0 0), I k] 49) := by rw [hY, upd_ne _ _ (by omega), upd_same]
        rw [← hY]
        refine Stk.callS 30 (words2 Y (n + 1 + 1) (fun j hj => by rw [hY, upd_ne _ _ (by omega), upd_ne _ _ (by omega)])) rfl rfl rfl (by simp) ?_
        rintro v H3 n3 ⟨rfl, rfl, rfl⟩
        simp
        refine Stk.loop 40 (fun μ t H2 n2 => t 2 = .own n 0 ∧ t 5 = I 0 ∧ H2 = H3) 0 ⟨by simp, by simp, rfl⟩ ?_
        rintro J hJ μ t H2 n2 ⟨t2, t5, rfl⟩
        simp [t2, t5, yn, c1, c1k, c1p]
        exact fin _ _ _ (by simp)
    | some x =>
      cases f2 with
      | none =>
        simp [c1, c1k, c1p, c2, c2k, c2p, nn, nn', hf0]
        iterate 4 (try (refine evS_sound (f := 24) ?_; simp [c1, c1k, c1p, c2, c2k, c2p, nn, nn', hf0]))
        obtain ⟨Y, hY⟩ : ∃ Y : Mem, Y = upd (upd H n (some (.cells [v1, .osl x 0 0 none, I k] 49))) (n + 1) (some (.cells [v2, .sc (.slice none 0 0), I k] 49)) := ⟨_, rfl⟩
        have yn : Y n = some (.cells [v1, .osl x 0 0 none, I k] 49) := by rw [hY, upd_ne _ _ (by omega), upd_same]
        rw [← hY]
        refine Stk.callS 30 (words2 Y (n + 1 + 1) (fun j hj => by rw [hY, upd_ne _ _ (by omega), upd_ne _ _ (by omega)])) rfl rfl rfl (by simp) ?_
        rintro v H3 n3 ⟨rfl, rfl, rfl⟩
        simp
        refine Stk.loop 40 (fun μ t H2 n2 => t 2 = .own n 0 ∧ t 5 = I 0 ∧ H2 = H3) 0 ⟨by simp, by simp, rfl⟩ ?_
        rintro J hJ μ t H2 n2 ⟨t2, t5, rfl⟩
        simp [t2, t5, yn, c1, c1k, c1p]
        exact fin _ _ _ (by simp)
      | some y =>
        simp [c1, c1k, c1p, c2, c2k, c2p, nn, nn', hf0]
        iterate 4 (try (refine evS_sound (f := 24) ?_; simp [c1, c1k, c1p, c2, c2k, c2p, nn, nn', hf0]))
        obtain ⟨Y, hY⟩ : ∃ Y : Mem, Y = upd (upd H n (some (.cells [v1, .osl x 0 0 none, I k] 49))) (n + 1) (some (.cells [v2, .osl y 0 0 none, I k] 49)) := ⟨_, rfl⟩
        have yn : Y n = some (.cells [v1, .osl x 0 0 none, I k] 49) := by rw [hY, upd_ne _ _ (by omega), upd_same]
        rw [← hY]
        refine Stk.callS 30 (words2 Y (n + 1 + 1) (fun j hj => by rw [hY, upd_ne _ _ (by omega), upd_ne _ _ (by omega)])) rfl rfl rfl (by simp) ?_
        rintro v H3 n3 ⟨rfl, rfl, rfl⟩
        simp
        refine Stk.loop 40 (fun μ t H2 n2 => t 2 = .own n 0 ∧ t 5 = I 0 ∧ H2 = H3) 0 ⟨by simp, by simp, rfl⟩ ?_
        rintro J hJ μ t H2 n2 ⟨t2, t5, rfl⟩
        simp [t2, t5, yn, c1, c1k, c1p]
        exact fin _ _ _ (by simp)
  · cases f1 with
    | none => exact absurd g1 hz
    | some x =>
      cases f2 with
      | none => exact absurd g2 hz
      | some y =>
        obtain ⟨r1, g1⟩ := g1
        obtain ⟨r2, g2⟩ := g2
        have hx := d1 x rfl
        have hy := d2 y rfl
        have hb1 : ((fs.length : Int) != fs.length) = false := by simp
        simp [c1, c1k, c1p, c2, c2k, c2p, nn, nn', hb1]
        iterate 4 (try (refine evS_sound (f := 24) ?_; simp [c1, c1k, c1p, c2, c2k, c2p, nn, nn', hb1]))
        obtain ⟨Y, hY⟩ : ∃ Y : Mem, Y = upd (upd H n (some (.cells [v1, .osl x 0 fs.length none, I k] 49))) (n + 1) (some (.cells [v2, .osl y 0 fs.length none, I k] 49)) := ⟨_, rfl⟩
        have yn : Y n = some (.cells [v1, .osl x 0 fs.length none, I k] 49) := by rw [hY, upd_ne _ _ (by omega), upd_same]
        have yn1 : Y (n + 1) = some (.cells [v2, .osl y 0 fs.length none, I k] 49) := by rw [hY, upd_same]
        have yk : ∀ j, j < n → Y j = H j := fun j hj => by rw [hY, upd_ne _ _ (by omega), upd_ne _ _ (by omega)]
        rw [← hY]
        have yx := (yk x hx).trans g1
        have yy := (yk y hy).trans g2
        refine Stk.callS 30 (words2 Y (n + 1 + 1) yk) rfl rfl rfl (by simp) ?_
        rintro v H3 n3 ⟨rfl, rfl, rfl⟩
        simp
        refine Stk.loop 40 (fun μ t H2 n2 => H2 = H3 ∧ n2 = n + 1 + 1 ∧ ∃ m : Nat, m ≤ fs.length ∧ μ = fs.length - m ∧ t 2 = .own n 0 ∧ t 3 = .own (n + 1) 0 ∧ t 5 = I m) fs.length ⟨rfl, rfl, 0, Nat.zero_le _, rfl, by simp, by simp, by simp⟩ ?_
        rintro J hJ μ t H2 n2 ⟨rfl, rfl, m, hm, rfl, t2, t3, t5⟩
        simp [t2, t3, t5, yn, yn1, c1, c1k, c1p]
        refine ⟨fun hlt => ?_, fun hge => ?_⟩
        · have e1 := part_own (e := eF) (z := 3) T.t79 rfl rfl fs r1 m hlt
          have e2 := part_own (e := eF) (z := 3) T.t79 rfl rfl fs r2 m hlt
          have hw := wrap_succ m (by omega)
          try simp at e1 e2
          refine Stk.regionD 999 [.rd [], .rd [n], .rd [], .rd [], .rd [x], .rd [], .rd [n + 1], .rd [], .rd [], .rd [y], .rd []] none (by kernel_rfl) (by rfl) (by rfl) (by simp [below]) rfl ?_
          simp [t2, t3, t5, hlt, yn, yn1, yx, yy, e1, e2, hw, c1, c1k, c1p, c2, c2k, c2p]
          exact ⟨fs.length - (m + 1), by omega, hJ _ _ _ _ ⟨rfl, rfl, m + 1, by omega, rfl, by simp [t2], by simp [t3], by simp⟩⟩
        · exact fin _ _ _ (by simp)
end Go.Proofs.Ytfflojbgikfbmaa.Sta

/-
  PolyRises for every input: the greater of two, and greater values.
-/
import Derived.Test.YtfbkgjmpadknfaaPG
namespace Go.Proofs.Ytfbkgjmpadknfaa.M
open Go.Proofs.YtfbkgjmpadknfaaW.Ah Go.Proofs.Ytfbkgjmpadknfaa
set_option linter.unusedVariables false
set_option linter.unusedSimpArgs false

theorem rises_gen (F : Nat) (hF : 1000 ≤ F) (hA : L13_awake F = some true) (x0 x1 : List api_Term) (x2 : List Int) (x3 x4 : Int) (w0 : W37 x0) (w1 : W37 x1) (w2 : W45 x2) (w3 : W5 x3) (w4 : W46 x4) : L13_PolyRises F x0 x1 x2 x3 x4 = some true := by
  unfold L13_PolyRises
  obtain ⟨b, hb, hg⟩ := few_ok F [x0, x1] (by simp [maxLen]) (by simp; omega)
  rw [hb]
  simp only [Option.bind_some]
  refine cond_both (fun _ => by simp [hA]) (fun hc => ?_)
  simp only [Bool.or_eq_false_iff, Bool.not_eq_false', decide_eq_false_iff_not] at hc
  have hg := (hg hc.1).2
  have ga : Good x0 := ⟨hg x0 (by simp), nn_of w0⟩
  have gb : Good x1 := ⟨hg x1 (by simp), nn_of w1⟩
  have hl2 : x2.length ≤ 20 := by omega
  have hl : x2.length ≤ maxLen := by simp [maxLen]; omega
  have gm := max_good ga gb
  have gs := add_good ga gb
  have e1 := max_ok F hF ga.fit gb.fit
  have e2 := max_ok F hF gb.fit ga.fit
  rw [max_comm gb ga] at e2
  have e3 := max_ok F hF ga.fit ga.fit
  rw [max_self ga] at e3
  have e4 := add_ok F hF ga.fit gb.fit
  have s1 := same_ok F (by omega) _ gm.len
  have s2 := same_ok F (by omega) _ ga.len
  have v1 := at_ok' F hF gm x2 hl
  have v2 := at_ok' F hF gs x2 hl
  simp only [Option.bind_some, Bool.not_true, cond_false, e1, e2, e3, e4, joinM, bne_self_eq_false, Bool.or_self, s1, s2, v1, v2]
  refine cond_both (fun hc => ?_) (fun _ => ?_)
  · exfalso
    simp only [Bool.and_eq_true, beq_iff_eq, decide_eq_true_eq] at hc
    obtain ⟨⟨⟨⟨h1, h2⟩, h3⟩, h4⟩, h5⟩ := hc
    have h3 := atV_zero h3
    have h4 := atV_zero h4
    rw [h3.2, h4.2, max_zero h1, (res_zero h2).2] at h5
    have h6 := (max_le (g0_nonneg x2) x0 x1 ga.pos gb.pos).1
    simp only [val, norm_dot, dot_append] at h5
    omega
  · have tail : ∀ v : List Int, v.length ≤ maxLen → (∀ i, vv x2 i ≤ vv v i) → ((poly_At F x0 x2).bind fun x33 => (poly_At F x0 v).bind fun x34 =>
        bif (x34.2 != 0) || ((x33.2 == 0) && decide (x33.1 ≤ x34.1)) then (L13_awake F).bind fun x36 => some x36 else some false) = some true := by
      intro v hv hi
      simp only [at_ok' F hF ga x2 hl, at_ok' F hF ga v hv, Option.bind_some]
      refine cond_both (fun _ => by simp [hA]) (fun hc => ?_)
      exfalso
      simp only [Bool.or_eq_false_iff, bne_eq_false_iff_eq, Bool.and_eq_false_iff, beq_eq_false_iff_ne, decide_eq_false_iff_not] at hc
      have h1 := atV_zero hc.1
      have h2 : val x0 x2 ≤ val x0 v := dot_mono (fun k => mon_mono hi k 0) ga.pos
      have h3 : (atV x0 x2).2 = 0 := (atV_iff _ _).2 (by omega)
      rcases hc.2 with h | h
      · exact h h3
      · rw [(atV_zero h3).2, h1.2] at h; exact h h2
    have happ : appM 8 ([] : List Int) x2 = some x2 := by
      rw [app_ok (by simp [roomMax]; omega) (by omega)]; rfl
    simp only [happ, Option.bind_some]
    refine cond_both (fun hpos => ?_) (fun _ => ?_)
    · simp only [decide_eq_true_eq] at hpos
      have w30 := w5_lo w3
      have w31 := w5_hi w3
      have w40 := w46_lo w4
      have w41 := w46_hi w4
      have k3 : IntKind.i64.wrap x3 = x3 := wrap_ok (by omega) (by omega)
      have k4 : IntKind.i64.wrap x4 = x4 := wrap_ok (by omega) (by omega)
      have hr : remM x3 (x2.length : Int) = some (x3.tmod (x2.length : Int)) := by unfold remM; rw [if_neg (by omega)]
      have r0 : 0 ≤ x3.tmod (x2.length : Int) := Int.tmod_nonneg _ w30
      have r1 : x3.tmod (x2.length : Int) < (x2.length : Int) := Int.tmod_lt_of_pos _ hpos
      generalize x3.tmod (x2.length : Int) = r at *
      obtain ⟨j, rfl⟩ := Int.eq_ofNat_of_zero_le r0
      have hj : j < x2.length := by omega
      have hi : idx x2 ((j : Nat) : Int) = some x2[j] := by rw [idx_nat, List.getElem?_eq_getElem hj]
      have hwj := w2.2 x2[j] (List.getElem_mem hj)
      simp only [k3, k4, hr, hi, Option.bind_some]
      refine cond_both (fun hlt => ?_) (fun _ => tail x2 hl (fun _ => Int.le_refl _))
      simp only [decide_eq_true_eq] at hlt
      have hlow := w2_lo hwj
      rw [wrap_ok (by omega) (by omega), Int.toNat_natCast]
      refine tail _ (by rw [List.length_set]; exact hl) (fun i => vv_set x2 j _ ?_ i)
      rw [show x2.getD j 0 = x2[j] by simp [hj]]; omega
    · exact tail x2 hl (fun _ => Int.le_refl _)
theorem holds_PolyRises (x0 x1 : List api_Term) (x2 : List Int) (x3 x4 : Int) (w0 : W37 x0) (w1 : W37 x1) (w2 : W45 x2) (w3 : W5 x3) (w4 : W46 x4) : ∃ F, L13_PolyRises F x0 x1 x2 x3 x4 = some true :=
  ⟨2000, rises_gen 2000 (by omega) awake_ok x0 x1 x2 x3 x4 w0 w1 w2 w3 w4⟩
end Go.Proofs.Ytfbkgjmpadknfaa.M

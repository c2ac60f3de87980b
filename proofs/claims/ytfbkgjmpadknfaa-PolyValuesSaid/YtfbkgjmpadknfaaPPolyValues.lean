/-
  PolyValues for every input: values of sums, products and the greater.
-/
import Derived.Test.YtfbkgjmpadknfaaPJ
namespace Go.Proofs.Ytfbkgjmpadknfaa.M
open Go.Proofs.YtfbkgjmpadknfaaW.Ah Go.Proofs.Ytfbkgjmpadknfaa
set_option linter.unusedVariables false
set_option linter.unusedSimpArgs false

theorem product_ok (F : Nat) {a b : Int} (ha : 0 ≤ a) (hb : 0 ≤ b) (h : a * b ≤ 1099511627776) : L13_product F a b = some (a * b) := by
  have h0 := Int.mul_nonneg ha hb
  unfold L13_product joinM
  by_cases c : 0 < a
  · have : ¬ 1099511627776 / a < b := by
      rw [quo_lt (by omega), Int.mul_comm]; omega
    simp [c, quo_ok (show 1 ≤ a by omega), this, wrap_ok (show -9223372036854775808 ≤ a * b by omega) (by omega)]
  · simp [c, wrap_ok (show -9223372036854775808 ≤ a * b by omega) (by omega)]
theorem values_gen (F : Nat) (hF : 1000 ≤ F) (hA : L13_awake F = some true) (x0 x1 : List api_Term) (x2 : List Int) (x3 : Int) (w0 : W37 x0) (w1 : W37 x1) (w2 : W45 x2) (w3 : W3 x3) : L13_PolyValues F x0 x1 x2 x3 = some true := by
  unfold L13_PolyValues
  have hF1 : 100 ≤ F := by omega
  obtain ⟨b, hb, hg⟩ := few_ok F [x0, x1] (by simp [maxLen]) (by simp; omega)
  rw [hb]
  simp only [Option.bind_some, joinM]
  refine cond_both (fun _ => by simp [hA]) (fun hc => ?_)
  simp only [Bool.or_eq_false_iff, Bool.not_eq_false', decide_eq_false_iff_not] at hc
  have hg := (hg hc.1).2
  have ga : Good x0 := ⟨hg x0 (by simp), nn_of w0⟩
  have gb : Good x1 := ⟨hg x1 (by simp), nn_of w1⟩
  have hl : x2.length ≤ maxLen := w2.1
  have gm := max_good ga gb
  have gs := add_good ga gb
  have gp := mul_good ga gb
  have gr := split_good ga x3
  have gn := num_good (SplitR x0 x3).1
  have gv := var_good x3
  have gnv := mul_good gn gv
  have ps := add_good gnv gr
  have e1 := at_ok' F hF ga x2 hl
  have e2 := at_ok' F hF gb x2 hl
  have e3 := add_ok F hF ga.fit gb.fit
  have e4 := mul_ok F hF ga gb
  have e5 := max_ok F hF ga.fit gb.fit
  have e6 := at_ok' F hF gs x2 hl
  have e7 := at_ok' F hF gp x2 hl
  have e8 := at_ok' F hF gm x2 hl
  have e9 := split_ok F hF1 x0 ga.len x3
  have e10 := mul_ok F hF gn gv
  have e11 := add_ok F hF gnv.fit gr.fit
  have e12 := has_ok F hF1 _ gr.len x3
  simp only [e1, e2, e3, e4, e5, Option.bind_some]
  refine cond_both (fun _ => by simp [hA]) (fun hz => ?_)
  simp only [Bool.or_eq_false_iff, bne_eq_false_iff_eq] at hz
  have za := atV_zero hz.1
  have zb := atV_zero hz.2
  have na := val_nonneg ga.pos x2
  have nb := val_nonneg gb.pos x2
  simp only [e6, Option.bind_some, za.2, zb.2]
  rw [wrap_ok (show -9223372036854775808 ≤ val x0 x2 + val x1 x2 by omega) (by omega)]
  refine cond_both (fun hh => ?_) (fun _ => ?_)
  · exfalso
    have key1 : (Res (x0 ++ x1)).2 = 0 → val (Res (x0 ++ x1)).1 x2 = val x0 x2 + val x1 x2 := fun h => by
      rw [(res_zero h).2]; unfold val; rw [norm_dot, dot_append]
    simp only [Bool.or_eq_true, Bool.and_eq_true, beq_iff_eq, Bool.not_eq_true', bne_iff_ne, ne_eq] at hh
    rcases hh with ⟨h1, h2⟩ | ⟨⟨h1, h2⟩, h3⟩
    · have k := key1 h1
      have q := atV_iff (Res (x0 ++ x1)).1 x2
      rw [k] at q
      by_cases d : val x0 x2 + val x1 x2 ≤ 1099511627776
      · rw [q.2 d] at h2; simp [d] at h2
      · have : ¬ (atV (Res (x0 ++ x1)).1 x2).2 = 0 := fun h => d (q.1 h)
        simp [d, this] at h2
    · exact h3 (by rw [(atV_zero h2).2]; exact key1 h1)
  · simp only [e7, Option.bind_some]
    have rest : ∀ v : Bool, v = false → (bif v then some false else (poly_At F (MaxR x0 x1).1 x2).bind fun x18 =>
        bif (((MaxR x0 x1).2 == 0) && (x18.2 == 0)) && (decide (x18.1 < (if val x0 x2 < val x1 x2 then val x1 x2 else val x0 x2))) then some false
        else (poly_Split F x0 x3).bind fun x20 => bif x20.2.2 then (poly_Num F x20.1).bind fun x22 => (poly_Var F x3).bind fun x23 => (poly_Mul F x22.1 x23.1).bind fun x24 => (poly_Add F x24.1 x20.2.1).bind fun x25 =>
          bif x23.2 == 0 then
            bif (x24.2 != 0) || (x25.2 != 0) then bif true then bif true then some false else (L13_awake F).bind fun x32 => some x32 else (poly_Has F x20.2.1 x3).bind fun x30 => bif x30 then some false else (L13_awake F).bind fun x32 => some x32
            else (R13_Same F x25.1 x0).bind fun x28 => bif !x28 then bif true then some false else (L13_awake F).bind fun x32 => some x32 else (poly_Has F x20.2.1 x3).bind fun x30 => bif x30 then some false else (L13_awake F).bind fun x32 => some x32
          else bif false then bif true then some false else (L13_awake F).bind fun x32 => some x32 else (poly_Has F x20.2.1 x3).bind fun x30 => bif x30 then some false else (L13_awake F).bind fun x32 => some x32
        else (L13_awake F).bind fun x33 => some x33) = some true := by
      rintro _ rfl
      simp only [cond_false, e8, Option.bind_some]
      refine cond_both (fun hh => ?_) (fun _ => ?_)
      · exfalso
        simp only [Bool.and_eq_true, beq_iff_eq, decide_eq_true_eq] at hh
        obtain ⟨⟨h1, h2⟩, h3⟩ := hh
        rw [(atV_zero h2).2, max_zero h1] at h3
        have h4 := max_le (g0_nonneg x2) x0 x1 ga.pos gb.pos
        unfold val at h3
        split at h3 <;> omega
      · simp only [e9, Option.bind_some]
        refine cond_both (fun hs => ?_) (fun _ => by simp [hA])
        have hh := split_has ga x3 hs
        simp only [num_ok, var_ok, Option.bind_some, e10, e11, e12, hh, cond_false, cond_true]
        refine cond_both (fun hv => ?_) (fun _ => by simp [hA])
        obtain ⟨q1, q2⟩ := split_back ga (by simpa using hv) hs
        simp only [q1, q2, bne_self_eq_false, Bool.or_self, cond_false, same_ok F hF1 x0 ga.len, Option.bind_some, Bool.not_true, hA]
    refine cond_both (fun hh => ?_) (fun _ => rest false rfl)
    simp only [Bool.and_eq_true, beq_iff_eq] at hh
    have k : val (Res (prodL x0 x1)).1 x2 = val x0 x2 * val x1 x2 := by
      rw [(res_zero hh.1).2]
      show dot _ _ = _
      rw [norm_dot]; exact val_prod ga.nn gb.nn x2
    have h7 := atV_zero hh.2
    have h8 : val x0 x2 * val x1 x2 ≤ 1099511627776 := by rw [← k]; exact h7.1
    simp only [product_ok F na nb h8, Option.bind_some]
    exact rest _ (by rw [h7.2, k]; simp)
theorem holds_PolyValues (x0 x1 : List api_Term) (x2 : List Int) (x3 : Int) (w0 : W37 x0) (w1 : W37 x1) (w2 : W45 x2) (w3 : W3 x3) : ∃ F, L13_PolyValues F x0 x1 x2 x3 = some true :=
  ⟨2000, values_gen 2000 (by omega) awake_ok x0 x1 x2 x3 w0 w1 w2 w3⟩
end Go.Proofs.Ytfbkgjmpadknfaa.M

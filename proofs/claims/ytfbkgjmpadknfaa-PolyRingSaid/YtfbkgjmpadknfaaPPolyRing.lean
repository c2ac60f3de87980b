/-
  PolyRing for every input: sums and products of sums of terms.
-/
import Derived.Test.YtfbkgjmpadknfaaPE
namespace Go.Proofs.Ytfbkgjmpadknfaa.M
open Go.Proofs.YtfbkgjmpadknfaaW.Ah Go.Proofs.Ytfbkgjmpadknfaa
set_option linter.unusedVariables false
set_option linter.unusedSimpArgs false

theorem ring_gen (F : Nat) (hF : 1000 ≤ F) (hA : L13_awake F = some true) (x0 x1 x2 : List api_Term) (w0 : W37 x0) (w1 : W37 x1) (w2 : W37 x2) : L13_PolyRing F x0 x1 x2 = some true := by
  unfold L13_PolyRing
  obtain ⟨b, hb, hg⟩ := few_ok F [x0, x1, x2] (by simp [maxLen]) (by simp; omega)
  rw [hb]
  cases b with
  | false => simp [hA]
  | true =>
    have hg := (hg rfl).2
    have ga : Good x0 := ⟨hg x0 (by simp), nn_of w0⟩
    have gb : Good x1 := ⟨hg x1 (by simp), nn_of w1⟩
    have gc : Good x2 := ⟨hg x2 (by simp), nn_of w2⟩
    have gab := add_good ga gb
    have mab := mul_good ga gb
    have mac := mul_good ga gc
    have mbc := mul_good gb gc
    have e1 := add_ok F hF ga.fit gb.fit
    have e2 := add_ok F hF gb.fit ga.fit
    rw [Res_congr (l := x1 ++ x0) (m := x0 ++ x1) (gb.pos.append ga.pos) (ga.pos.append gb.pos) (fun k => by simp only [coef, dot_append]; omega)] at e2
    have e3 := mul_ok F hF ga gb
    have e4 := mul_ok F hF gb ga
    rw [Res_congr (prod_pos gb.pos ga.pos) (prod_pos ga.pos gb.pos) (fun k => prod_comm _ _ _)] at e4
    have e5 := mul_ok F hF gab gc
    have e6 := mul_ok F hF ga gc
    have e7 := mul_ok F hF gb gc
    have e8 := add_ok F hF mac.fit mbc.fit
    have e9 := mul_ok F hF mab gc
    have e10 := mul_ok F hF ga mbc
    have s1 := same_ok F (by omega) _ gab.len
    have s2 := same_ok F (by omega) _ mab.len
    have f1 := rfit_ok F (by omega) (Res (x0 ++ x1)).1
    have f2 := rfit_ok F (by omega) (Res (prodL x0 x1)).1
    rw [gab.fit] at f1
    rw [mab.fit] at f2
    simp only [Option.bind_some, Bool.not_true, cond_false, e1, e2, e3, e4, e5, e6, e7, e8, e9, e10, joinM, bne_self_eq_false, Bool.or_self, s1, s2, f1, f2]
    have end1 : (bif ((((Res (prodL x0 x1)).2 != 0 || (Res (prodL (Res (prodL x0 x1)).1 x2)).2 != 0) || (Res (prodL x1 x2)).2 != 0) || (Res (prodL x0 (Res (prodL x1 x2)).1)).2 != 0) then bif true then (L13_awake F).bind fun x31 => some x31 else some false
        else (R13_Same F (Res (prodL (Res (prodL x0 x1)).1 x2)).1 (Res (prodL x0 (Res (prodL x1 x2)).1)).1).bind fun x29 => bif x29 then (L13_awake F).bind fun x31 => some x31 else some false) = some true := by
      refine cond_both (fun hc => by simp [hA]) (fun hc => ?_)
      simp only [Bool.or_eq_false_iff, bne_eq_false_iff_eq] at hc
      obtain ⟨⟨⟨h1, h2⟩, h3⟩, h4⟩ := hc
      have h1 := res_zero h1
      have h3 := res_zero h3
      have : Res (prodL (Res (prodL x0 x1)).1 x2) = Res (prodL x0 (Res (prodL x1 x2)).1) := by
        refine Res_congr (prod_pos mab.pos gc.pos) (prod_pos ga.pos mbc.pos) (fun k => ?_)
        rw [h1.2, h3.2]
        show dot _ _ = dot _ _
        rw [prod_norm_left, prod_norm_right, prod_assoc]
      rw [this, same_ok F (by omega) _ (res_len (prod_nn ga.nn mbc.nn))]
      simp [hA]
    refine cond_both (fun hc => ?_) (fun hc => by simpa using end1)
    simp only [Bool.and_eq_true, beq_iff_eq] at hc
    obtain ⟨⟨⟨⟨h1, h2⟩, h3⟩, h4⟩, h5⟩ := hc
    have h1 := res_zero h1
    have h3 := res_zero h3
    have h4 := res_zero h4
    have : Res (prodL (Res (x0 ++ x1)).1 x2) = Res ((Res (prodL x0 x2)).1 ++ (Res (prodL x1 x2)).1) := by
      refine Res_congr (prod_pos gab.pos gc.pos) (mac.pos.append mbc.pos) (fun k => ?_)
      rw [h1.2, h3.2, h4.2]
      show dot _ _ = dot _ _
      rw [dot_append, dot_prod, norm_dot, norm_dot, norm_dot, dot_append, dot_prod, dot_prod]
    rw [this, same_ok F (by omega) _ (res_len (mac.nn.append mbc.nn))]
    simpa using end1
theorem holds_PolyRing (x0 x1 x2 : List api_Term) (w0 : W37 x0) (w1 : W37 x1) (w2 : W37 x2) : ∃ F, L13_PolyRing F x0 x1 x2 = some true :=
  ⟨2000, ring_gen 2000 (by omega) awake_ok x0 x1 x2 w0 w1 w2⟩
end Go.Proofs.Ytfbkgjmpadknfaa.M

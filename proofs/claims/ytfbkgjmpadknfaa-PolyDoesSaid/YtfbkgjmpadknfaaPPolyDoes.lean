/-
  PolyDoes for every input: the document's sums, products, the greater, and putting.
-/
import Derived.Test.YtfbkgjmpadknfaaPN
namespace Go.Proofs.Ytfbkgjmpadknfaa.M
open Go.Proofs.YtfbkgjmpadknfaaW.Ah Go.Proofs.Ytfbkgjmpadknfaa
set_option linter.unusedVariables false
set_option linter.unusedSimpArgs false

theorem awake_same (F G : Nat) (hF : 1000 ≤ F) (hG : 1000 ≤ G) : L13_awake F = L13_awake G := by
  have v0 := var_good 0
  have n2 := num_good 2
  have n3 := num_good 3
  have a1 := add_good v0 n2
  have a2 := add_good v0 n3
  have hl : ([4] : List Int).length ≤ maxLen := by simp [maxLen]
  unfold L13_awake
  simp only [var_ok, num_ok, Option.bind_some, add_ok F hF v0.fit n2.fit, add_ok G hG v0.fit n2.fit, add_ok F hF v0.fit n3.fit, add_ok G hG v0.fit n3.fit, mul_ok F hF a1 a2, mul_ok G hG a1 a2,
    at_ok' F hF (mul_good a1 a2) [4] hl, at_ok' G hG (mul_good a1 a2) [4] hl]
theorem awake_gen (F : Nat) (hF : 1000 ≤ F) : L13_awake F = some true := (awake_same F 2000 hF (by omega)).trans awake_ok
theorem does_gen (F : Nat) (hF : 1000 ≤ F) (x0 x1 : List api_Term) (x2 : List (List api_Term)) (hF1 : 100 + x2.length ≤ F) (w0 : W37 x0) (w1 : W37 x1) (w2 : W39 x2) : L13_PolyDoes F x0 x1 x2 = some true := by
  unfold L13_PolyDoes
  have hA := awake_gen F hF
  obtain ⟨b, hb, hg⟩ := few_ok F [x0, x1] (by simp [maxLen]) (by simp; omega)
  obtain ⟨c, hc, hh⟩ := few_ok F x2 w2.1 hF1
  simp only [hb, hc, Option.bind_some, joinM]
  cases b with
  | false => simp [hA]
  | true =>
    cases c with
    | false => simp [hA]
    | true =>
      have ga : Good x0 := ⟨(hg rfl).2 x0 (by simp), nn_of w0⟩
      have gb : Good x1 := ⟨(hg rfl).2 x1 (by simp), nn_of w1⟩
      have gq : QG x2 := fun q hq => ⟨(hh rfl).2 q hq, nn_of (w2.2 q hq)⟩
      simp only [Bool.not_true, cond_false, add_ok F hF ga.fit gb.fit, radd_ok F hF ga gb, mul_ok F hF ga gb, rmul_ok F hF ga gb, max_ok F hF ga.fit gb.fit, rmax_ok F hF ga gb, put_ok F hF ga gq, rputs_ok F hF ga gq, Option.bind_some,
        same_ok F (by omega : 100 ≤ F) _ (add_good ga gb).len, same_ok F (by omega : 100 ≤ F) _ (mul_good ga gb).len, same_ok F (by omega : 100 ≤ F) _ (max_good ga gb).len, same_ok F (by omega : 100 ≤ F) _ (put_good gq x0 good_nil).len,
        beq_self_eq_true, Bool.and_self, cond_true, hA]
theorem holds_PolyDoes (x0 x1 : List api_Term) (x2 : List (List api_Term)) (w0 : W37 x0) (w1 : W37 x1) (w2 : W39 x2) : ∃ F, L13_PolyDoes F x0 x1 x2 = some true :=
  ⟨2000 + x2.length, does_gen _ (by omega) x0 x1 x2 (by omega) w0 w1 w2⟩
end Go.Proofs.Ytfbkgjmpadknfaa.M

/-
  PolyTells for every input: the document's numbers, variables, values and parts.
-/
import Derived.Test.YtfbkgjmpadknfaaPI
namespace Go.Proofs.Ytfbkgjmpadknfaa.M
open Go.Proofs.YtfbkgjmpadknfaaW.Ah Go.Proofs.Ytfbkgjmpadknfaa
set_option linter.unusedVariables false
set_option linter.unusedSimpArgs false

theorem split_len : ∀ (u : List Int) (i : Nat) (l out : List api_Term) (k : Int), (splL u i k out l).2.1.length ≤ out.length + l.length
  | u, i, [], out, k => by simp [splL]
  | u, i, t :: l, out, k => by
    rw [splL]
    split
    · have := split_len u i l out t.Coef
      simp; omega
    · split
      · simp
      · have := split_len u i l (out ++ [t]) k
        simp at this ⊢; omega
theorem splitR_len (p : List api_Term) (v : Int) : (SplitR p v).2.1.length ≤ p.length := by
  unfold SplitR; split
  · exact Nat.le_refl _
  · have := split_len (key (unitT v.toNat)) v.toNat p [] 0
    simpa using this
theorem tells_gen (F : Nat) (hF : 1000 ≤ F) (hA : L13_awake F = some true) (x0 x1 : List api_Term) (x2 x3 : Int) (x4 : List Int) (w0 : W37 x0) (w1 : W37 x1) (w2 : W2 x2) (w3 : W3 x3) (w4 : W45 x4) : L13_PolyTells F x0 x1 x2 x3 x4 = some true := by
  unfold L13_PolyTells
  have hF1 : 100 ≤ F := by omega
  simp only [joinM, rfit_ok F hF1, Option.bind_some]
  refine cond_both (fun _ => by simp [hA]) (fun hc0 => ?_)
  refine cond_both (fun _ => by simp [hA]) (fun hc => ?_)
  simp only [Bool.or_eq_false_iff, Bool.not_eq_false'] at hc
  have g1 : Good x1 := ⟨hc.1, nn_of w1⟩
  simp only [num_ok, rnum_ok, var_ok, rvar_ok, at_ok' F hF g1 x4 w4.1, rat_ok F hF g1, split_ok F hF1 x1 g1.len, rsplit_ok F hF1 x1 g1.len, pfit_ok F hF1, has_ok F hF1 x1 g1.len, rhas_ok F hF1 x1 g1.len, Option.bind_some,
    same_ok F hF1 _ (num_good x2).len, same_ok F hF1 _ (var_good x3).len, same_ok F hF1 _ (show (SplitR x1 x3).2.1.length ≤ 64 from Nat.le_trans (splitR_len x1 x3) g1.len),
    beq_self_eq_true, Bool.and_self, cond_true, hA]
theorem holds_PolyTells (x0 x1 : List api_Term) (x2 x3 : Int) (x4 : List Int) (w0 : W37 x0) (w1 : W37 x1) (w2 : W2 x2) (w3 : W3 x3) (w4 : W45 x4) : ∃ F, L13_PolyTells F x0 x1 x2 x3 x4 = some true :=
  ⟨2000, tells_gen 2000 (by omega) awake_ok x0 x1 x2 x3 x4 w0 w1 w2 w3 w4⟩
end Go.Proofs.Ytfbkgjmpadknfaa.M

/-
  TyTells for every input.
-/
import Derived.Test.YtappiofmkoelnaaTtW8
import Derived.Test.YtappiofmkoelnaaTtO
import Derived.Test.YtappiofmkoelnaaTtPTyTells
namespace Go.Proofs.Ytappiofmkoelnaa
open Go.Proofs.YtappiofmkoelnaaW.Ah
set_option linter.unusedVariables false

theorem Pure.TyTells (l : List AV) (h : TypAs T.T [51, 22, 40, 40, 9] l) : RunF Try.prog T.T 5 l (B true) := by
  cases h with
  | cons a0 h =>
    cases h with
    | cons a1 h =>
      cases h with
      | cons a2 h =>
        cases h with
        | cons a3 h =>
          cases h with
          | cons a4 h =>
            cases h with
            | nil =>
              obtain ⟨x0, rfl, w0⟩ := M.oa51 _ a0
              obtain ⟨x1, rfl, w1⟩ := M.oa22 _ a1
              obtain ⟨x2, rfl, w2⟩ := M.oa40 _ a2
              obtain ⟨x3, rfl, w3⟩ := M.oa40 _ a3
              obtain ⟨x4, rfl, w4⟩ := M.oa9 _ a4
              obtain ⟨F, hF⟩ := M.holds_TyTells x0 x1 x2 x3 x4 w0 w1 w2 w3 w4
              exact M.ok_L07_TyTells F x0 x1 x2 x3 x4 true hF
end Go.Proofs.Ytappiofmkoelnaa

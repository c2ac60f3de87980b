/-
  TyNames for every input.
-/
import Derived.Test.YtappiofmkoelnaaTyW1
import Derived.Test.YtappiofmkoelnaaTyO
import Derived.Test.YtappiofmkoelnaaTyPTyNames
namespace Go.Proofs.Ytappiofmkoelnaa
open Go.Proofs.YtappiofmkoelnaaW.Ah
set_option linter.unusedVariables false

theorem Pure.TyNames (l : List AV) (h : TypAs T.T [22, 9] l) : RunF Try.prog T.T 3 l (B true) := by
  cases h with
  | cons a0 h =>
    cases h with
    | cons a1 h =>
      cases h with
      | nil =>
        obtain ⟨x0, rfl, w0⟩ := M.oa22 _ a0
        obtain ⟨x1, rfl, w1⟩ := M.oa9 _ a1
        obtain ⟨F, hF⟩ := M.holds_TyNames x0 x1 w0 w1
        exact M.ok_L07_TyNames F x0 x1 true hF
end Go.Proofs.Ytappiofmkoelnaa

/-
  TyMore for every input.
-/
import Derived.Test.YtappiofmkoelnaaTmW1
import Derived.Test.YtappiofmkoelnaaTmO
import Derived.Test.YtappiofmkoelnaaTmPTyMore
namespace Go.Proofs.Ytappiofmkoelnaa
open Go.Proofs.YtappiofmkoelnaaW.Ah
set_option linter.unusedVariables false

theorem Pure.TyMore (l : List AV) (h : TypAs T.T [22, 22] l) : RunF Try.prog T.T 4 l (B true) := by
  cases h with
  | cons a0 h =>
    cases h with
    | cons a1 h =>
      cases h with
      | nil =>
        obtain ⟨x0, rfl, w0⟩ := M.oa22 _ a0
        obtain ⟨x1, rfl, w1⟩ := M.oa22 _ a1
        obtain ⟨F, hF⟩ := M.holds_TyMore x0 x1 w0 w1
        exact M.ok_L07_TyMore F x0 x1 true hF
end Go.Proofs.Ytappiofmkoelnaa

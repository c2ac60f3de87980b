/-
  HeapPlays for every input.
-/
import Derived.Test.YtfflojbgikfbmaaKN7
import Derived.Test.YtfflojbgikfbmaaHrO
namespace Go.Proofs.Ytfflojbgikfbmaa
open Go.Proofs.YtfflojbgikfbmaaW.Ah
set_option linter.unusedVariables false

theorem Pure.HeapPlays (l : List AV) (h : TypAs T.T [93, 3, 106] l) : RunF Try.prog T.T 12 l (B true) := by
  cases h with
  | cons a0 h =>
    cases h with
    | cons a1 h =>
      cases h with
      | cons a2 h =>
        cases h with
        | nil =>
          obtain ⟨x0, rfl, w0⟩ := M.oa93 _ a0
          obtain ⟨x1, rfl, w1⟩ := M.oa3 _ a1
          obtain ⟨x2, rfl, w2⟩ := M.oa106 _ a2
          exact Hea.plays x0 x1 x2 w0 w1 w2
end Go.Proofs.Ytfflojbgikfbmaa

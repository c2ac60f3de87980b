/-
  HeapTells for every input.
-/
import Derived.Test.YtfflojbgikfbmaaHtW3
import Derived.Test.YtfflojbgikfbmaaHtO
import Derived.Test.YtfflojbgikfbmaaHtPHeapTells
namespace Go.Proofs.Ytfflojbgikfbmaa
open Go.Proofs.YtfflojbgikfbmaaW.Ah
set_option linter.unusedVariables false

theorem Pure.HeapTells (l : List AV) (h : TypAs T.T [34, 40, 35, 93] l) : RunF Try.prog T.T 10 l (B true) := by
  cases h with
  | cons a0 h =>
    cases h with
    | cons a1 h =>
      cases h with
      | cons a2 h =>
        cases h with
        | cons a3 h =>
          cases h with
          | nil =>
            obtain ⟨x0, rfl, w0⟩ := M.oa34 _ a0
            obtain ⟨x1, rfl, w1⟩ := M.oa40 _ a1
            obtain ⟨x2, rfl, w2⟩ := M.oa35 _ a2
            obtain ⟨x3, rfl, w3⟩ := M.oa93 _ a3
            obtain ⟨F, hF⟩ := M.holds_HeapTells x0 x1 x2 x3 w0 w1 w2 w3
            exact M.ok_L16_HeapTells F x0 x1 x2 x3 true hF
end Go.Proofs.Ytfflojbgikfbmaa

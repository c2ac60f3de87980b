/-
  PolyDoes for every input.
-/
import Derived.Test.YtfbkgjmpadknfaaGW13
import Derived.Test.YtfbkgjmpadknfaaGO
import Derived.Test.YtfbkgjmpadknfaaPPolyDoes
namespace Go.Proofs.Ytfbkgjmpadknfaa
open Go.Proofs.YtfbkgjmpadknfaaW.Ah
set_option linter.unusedVariables false

theorem Pure.PolyDoes (l : List AV) (h : TypAs T.T [37, 37, 39] l) : RunF Try.prog T.T 7 l (B true) := by
  cases h with
  | cons a0 h =>
    cases h with
    | cons a1 h =>
      cases h with
      | cons a2 h =>
        cases h with
        | nil =>
          obtain ⟨x0, rfl, w0⟩ := M.oa37 _ a0
          obtain ⟨x1, rfl, w1⟩ := M.oa37 _ a1
          obtain ⟨x2, rfl, w2⟩ := M.oa39 _ a2
          obtain ⟨F, hF⟩ := M.holds_PolyDoes x0 x1 x2 w0 w1 w2
          exact M.ok_L13_PolyDoes F x0 x1 x2 true hF
end Go.Proofs.Ytfbkgjmpadknfaa

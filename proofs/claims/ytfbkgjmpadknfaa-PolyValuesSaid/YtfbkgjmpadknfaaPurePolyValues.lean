/-
  PolyValues for every input.
-/
import Derived.Test.YtfbkgjmpadknfaaGW18
import Derived.Test.YtfbkgjmpadknfaaGO
import Derived.Test.YtfbkgjmpadknfaaPPolyValues
namespace Go.Proofs.Ytfbkgjmpadknfaa
open Go.Proofs.YtfbkgjmpadknfaaW.Ah
set_option linter.unusedVariables false

theorem Pure.PolyValues (l : List AV) (h : TypAs T.T [37, 37, 45, 3] l) : RunF Try.prog T.T 9 l (B true) := by
  cases h with
  | cons a0 h =>
    cases h with
    | cons a1 h =>
      cases h with
      | cons a2 h =>
        cases h with
        | cons a3 h =>
          cases h with
          | nil =>
            obtain ⟨x0, rfl, w0⟩ := M.oa37 _ a0
            obtain ⟨x1, rfl, w1⟩ := M.oa37 _ a1
            obtain ⟨x2, rfl, w2⟩ := M.oa45 _ a2
            obtain ⟨x3, rfl, w3⟩ := M.oa3 _ a3
            obtain ⟨F, hF⟩ := M.holds_PolyValues x0 x1 x2 x3 w0 w1 w2 w3
            exact M.ok_L13_PolyValues F x0 x1 x2 x3 true hF
end Go.Proofs.Ytfbkgjmpadknfaa

/-
  PolyTells for every input.
-/
import Derived.Test.YtfbkgjmpadknfaaGW16
import Derived.Test.YtfbkgjmpadknfaaGO
import Derived.Test.YtfbkgjmpadknfaaPPolyTells
namespace Go.Proofs.Ytfbkgjmpadknfaa
open Go.Proofs.YtfbkgjmpadknfaaW.Ah
set_option linter.unusedVariables false

theorem Pure.PolyTells (l : List AV) (h : TypAs T.T [37, 37, 2, 3, 45] l) : RunF Try.prog T.T 8 l (B true) := by
  cases h with
  | cons a0 h =>
    cases h with
    | cons a1 h =>
      cases h with
      | cons a2 h =>
        cases h with
        | cons a3 h =>
          cases h with
          | cons a4 h =>
            cases h with
            | nil =>
              obtain ⟨x0, rfl, w0⟩ := M.oa37 _ a0
              obtain ⟨x1, rfl, w1⟩ := M.oa37 _ a1
              obtain ⟨x2, rfl, w2⟩ := M.oa2 _ a2
              obtain ⟨x3, rfl, w3⟩ := M.oa3 _ a3
              obtain ⟨x4, rfl, w4⟩ := M.oa45 _ a4
              obtain ⟨F, hF⟩ := M.holds_PolyTells x0 x1 x2 x3 x4 w0 w1 w2 w3 w4
              exact M.ok_L13_PolyTells F x0 x1 x2 x3 x4 true hF
end Go.Proofs.Ytfbkgjmpadknfaa

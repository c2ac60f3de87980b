/-
  FlowApart for every input.
-/
import Derived.Test.YtcdafogfmijcpaaFaW2
import Derived.Test.YtcdafogfmijcpaaFaO
import Derived.Test.YtcdafogfmijcpaaFaPFlowApart
namespace Go.Proofs.Ytcdafogfmijcpaa
open Go.Proofs.YtcdafogfmijcpaaW.Ah
set_option linter.unusedVariables false

theorem Pure.FlowApart (l : List AV) (h : TypAs T.T [26, 5] l) : RunF Try.prog T.T 5 l (B true) := by
  cases h with
  | cons a0 h =>
    cases h with
    | cons a1 h =>
      cases h with
      | nil =>
        obtain ⟨x0, rfl, w0⟩ := M.oa26 _ a0
        obtain ⟨x1, rfl, w1⟩ := M.oa5 _ a1
        obtain ⟨F, hF⟩ := M.holds_FlowApart x0 x1 w0 w1
        exact M.ok_L21_FlowApart F x0 x1 true hF
end Go.Proofs.Ytcdafogfmijcpaa

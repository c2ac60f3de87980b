/-
  FlowSteps for every input.
-/
import Derived.Test.YtcdafogfmijcpaaFsW5
import Derived.Test.YtcdafogfmijcpaaFsO
import Derived.Test.YtcdafogfmijcpaaFsPFlowSteps
namespace Go.Proofs.Ytcdafogfmijcpaa
open Go.Proofs.YtcdafogfmijcpaaW.Ah
set_option linter.unusedVariables false

theorem Pure.FlowSteps (l : List AV) (h : TypAs T.T [26] l) : RunF Try.prog T.T 4 l (B true) := by
  cases h with
  | cons a0 h =>
    cases h with
    | nil =>
      obtain ⟨x0, rfl, w0⟩ := M.oa26 _ a0
      obtain ⟨F, hF⟩ := M.holds_FlowSteps x0 w0
      exact M.ok_L21_FlowSteps F x0 true hF
end Go.Proofs.Ytcdafogfmijcpaa

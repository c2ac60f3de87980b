/-
  FlowTells for every input.
-/
import Derived.Test.YtcdafogfmijcpaaFtW5
import Derived.Test.YtcdafogfmijcpaaFtO
import Derived.Test.YtcdafogfmijcpaaFtPFlowTells
namespace Go.Proofs.Ytcdafogfmijcpaa
open Go.Proofs.YtcdafogfmijcpaaW.Ah
set_option linter.unusedVariables false

theorem Pure.FlowTells (l : List AV) (h : TypAs T.T [26] l) : RunF Try.prog T.T 3 l (B true) := by
  cases h with
  | cons a0 h =>
    cases h with
    | nil =>
      obtain ⟨x0, rfl, w0⟩ := M.oa26 _ a0
      obtain ⟨F, hF⟩ := M.holds_FlowTells x0 w0
      exact M.ok_L21_FlowTells F x0 true hF
end Go.Proofs.Ytcdafogfmijcpaa

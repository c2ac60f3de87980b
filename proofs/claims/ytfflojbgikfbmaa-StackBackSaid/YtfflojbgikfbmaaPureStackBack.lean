/-
  StackBack for every input.
-/
import Derived.Test.YtfflojbgikfbmaaStkL
import Derived.Test.YtfflojbgikfbmaaTyp
namespace Go.Proofs.Ytfflojbgikfbmaa
open Go.Proofs.YtfflojbgikfbmaaW.Ah
set_option linter.unusedVariables false

theorem Pure.StackBack (l : List AV) (h : TypAs T.T [39, 5, 40] l) : RunF Try.prog T.T 4 l (B true) := by
  cases h with
  | cons a1 h => cases h with
    | cons a2 h => cases h with
      | cons a3 h => cases h with
        | nil =>
          obtain ⟨xs, rfl⟩ := typA_ints a1 T.t39 rfl T.t40 rfl rfl
          obtain ⟨u, rfl, w1⟩ := typA_int a2 T.t5 rfl
          obtain ⟨x, rfl, _⟩ := typA_int a3 T.t40 rfl
          exact Sta.back xs u x (by simp [Lit.wf, IntKind.min, IntKind.max, IntKind.signed, IntKind.bits] at w1; omega)
end Go.Proofs.Ytfflojbgikfbmaa

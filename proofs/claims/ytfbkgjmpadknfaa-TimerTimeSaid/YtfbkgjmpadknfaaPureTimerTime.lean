/-
  TimerTime for every input.
-/
import Derived.Test.YtfbkgjmpadknfaaTmE
import Derived.Test.YtfbkgjmpadknfaaTyp
namespace Go.Proofs.Ytfbkgjmpadknfaa
open Go.Proofs.YtfbkgjmpadknfaaW.Ah
set_option linter.unusedVariables false

theorem Pure.TimerTime (l : List AV) (h : TypAs T.T [2, 2, 2] l) : RunF Try.prog T.T 3 l (B true) := by
  cases h with
  | cons a1 h => cases h with
    | cons a2 h => cases h with
      | cons a3 h => cases h with
        | nil =>
          obtain ⟨a, rfl, w1⟩ := typA_int a1 T.t2 rfl
          obtain ⟨b, rfl, w2⟩ := typA_int a2 T.t2 rfl
          obtain ⟨d, rfl, w3⟩ := typA_int a3 T.t2 rfl
          simp [Lit.wf, IntKind.min, IntKind.max, IntKind.signed, IntKind.bits] at w1 w2 w3
          exact Tim.time a b d (by omega) (by omega) (by omega) (by omega)
end Go.Proofs.Ytfbkgjmpadknfaa

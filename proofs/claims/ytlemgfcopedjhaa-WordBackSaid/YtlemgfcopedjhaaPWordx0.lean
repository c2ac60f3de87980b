-- Written by xprint (a program of this work) out of the translation; Lean checks it.
import Derived.Test.YtlemgfcopedjhaaProg
import Derived.Below
import Derived.Deep.Draws
import Derived.Deep.AppendLies
import Derived.Maps.AppendAt
import Derived.OwnWalk
import Derived.Laws.BytesArg
import Derived.Laws.MakeOwn
import Derived.Laws.OwnMore
import Derived.Deep.OwnRows
import Derived.Tactics
import Derived.Lib.ConvBytes
import Derived.Laws.Slices
import Derived.WalkKit
import Derived.KernelRfl
import Derived.RowKit3
import Derived.Deep.LoopGhost
import Derived.Deep.QuietTactic
import Derived.BigQuiet
import Derived.WideLaws
import Derived.Deep.DeepCutAuto
import Derived.Deep.CutBlock
import Derived.Deep.RegionHeld3
import Derived.Laws.Rows
import Derived.Lib.AppendStr
import Derived.ArgAppend
import Derived.Laws.IdiomCopy
import Derived.OrdersHeld
import Derived.Laws.BitsLemmas
import Derived.RowKit
import Derived.Test.YtlemgfcopedjhaaWWords
import Derived.Test.YtlemgfcopedjhaaWLast
import Derived.Test.YtlemgfcopedjhaaWTab
import Derived.Test.YtlemgfcopedjhaaWFour
import Derived.Test.YtlemgfcopedjhaaWQPut
import Derived.Test.YtlemgfcopedjhaaWApart
import Derived.Test.YtlemgfcopedjhaaWArr
import Derived.Test.YtlemgfcopedjhaaWZeros
import Derived.Test.YtlemgfcopedjhaaWFoot
import Derived.Test.YtlemgfcopedjhaaWKept
import Derived.Test.YtlemgfcopedjhaaWShare
import Derived.Test.YtlemgfcopedjhaaWN
import Derived.Test.YtlemgfcopedjhaaWFootNe
import Derived.Test.YtlemgfcopedjhaaWAt
import Derived.Test.YtlemgfcopedjhaaWEqStruct
import Derived.Test.YtlemgfcopedjhaaWRepsOne
import Derived.Test.YtlemgfcopedjhaaWInv
import Derived.Test.YtlemgfcopedjhaaWInvWords
import Derived.Test.YtlemgfcopedjhaaWGuard
import Derived.Test.YtlemgfcopedjhaaWNEv
import Derived.Test.YtlemgfcopedjhaaWMore
import Derived.Test.YtlemgfcopedjhaaXWords
namespace Go.Proofs.Ytlemgfcopedjhaa.PWord
open Go.RowKit Go.Proofs.YtlemgfcopedjhaaW.PrintWords Go.Proofs.YtlemgfcopedjhaaW.PrintLast Go.Proofs.YtlemgfcopedjhaaW.PrintMore
attribute [local go_sem] max2_int min2_int max_two min_two max_three min_three max_four min_four   -- for this text's walks alone
set_option linter.unusedVariables false
set_option linter.unusedSimpArgs false



def errW : Option Int → Value
  | none => .nilIface
  | some c => .iface 0 (.int .i64 c)
theorem errW_none : errW none = .nilIface := rfl
theorem errW_some (c : Int) : errW (some c) = .iface 0 (.int .i64 c) := rfl

-- the values' own types

end Go.Proofs.Ytlemgfcopedjhaa.PWord

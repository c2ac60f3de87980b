/-
  No cell of these rows narrows 'for every input' (looked for: loops, veiled, ifaces, maps, wideKeys, modest, calm, conditions, laid).
  DERIVED. THE GIVEN ROWS OF THIS SEAT. 11 by the template 'for every input the law returns true; each argument reads behind the call as it read before'; 0 by the template 'total and deterministic' (their statements: YtfflojbgikfbmaaTotals.lean).
  GIVEN WITH THE SEED: the statements are not yours to turn. If you find one false, say at which input.
  Laid BY PROGRAM, IN A SANDBOX (cutbox-rows.mjs): the forced cells as the released guide's own fill.sh prints them over the translation ebd1ee0784dabd93… (all of the seat's roots in one cut). By AI agents, Wed Nov 11 2026. No macro, syntax, notation, axiom, sorry.
-/
import Derived.Test.YtfflojbgikfbmaaChecked
import GoSem.Claim
import GoSem.ClaimJoined
import GoSem.ClaimMapViews
import Derived.JoinedTies
import Derived.KernelRfl
namespace Go.Proofs.Ytfflojbgikfbmaa
/- THE CELL 'sum', in the pinned program and in every row, IS THE sha256 OF THE DUMP (.gsa) THAT YtfflojbgikfbmaaProg.lean LOADS. Nothing in Lean hashes anything: it is a label: what it is worth is what the hold of that sum in a sandbox is worth. -/
noncomputable def Try.pinned : Pinned := { name := "ytfflojbgikfbmaa", sum := "ebd1ee0784dabd937b9ea2ec6b04cf49221718bc404d7cf37d945a9d60c6104a", checked := Try.checked }
namespace Rows
def none {H : Type} : Left H := { results := [], args := [] }

/-- 'handloomlaw17.GraphOnce': WHATEVER THE INPUT: true; the input reads as it did. -/
def graphOnceSpec : ChangeSpec := { name := "graphOnce", fn := fun _ => fun
  | [d1, d2, d3, d4] => { results := [.lit (.bool true)], args := [d1, d2, d3, d4] }
  | _ => none }
def graphOnceRow : OpenClaim := { program := "ytfflojbgikfbmaa", sum := "ebd1ee0784dabd937b9ea2ec6b04cf49221718bc404d7cf37d945a9d60c6104a", func := "handloom/handloomlaw17.GraphOnce", spec := "graphOnce", unfollowed := true, recurses := true, apart := false }
def GraphOnceSaid : Prop := graphOnceRow.holds Try.pinned (OpenSpec.ofChange graphOnceSpec)

/-- ITS FALSE NEIGHBOUR: 'it returns false'. Refute it at one input. -/
def graphOnceWrong : ChangeSpec := { name := "graphOnce", fn := fun _ => fun
  | [d1, d2, d3, d4] => { results := [.lit (.bool false)], args := [d1, d2, d3, d4] }
  | _ => none }
def GraphOnceWrongFalsely : Prop := graphOnceRow.holds Try.pinned (OpenSpec.ofChange graphOnceWrong)

/-- 'handloomlaw22.StackBack': WHATEVER THE INPUT: true; the input reads as it did. -/
def stackBackSpec : ChangeSpec := { name := "stackBack", fn := fun _ => fun
  | [d1, d2, d3] => { results := [.lit (.bool true)], args := [d1, d2, d3] }
  | _ => none }
def stackBackRow : OpenClaim := { program := "ytfflojbgikfbmaa", sum := "ebd1ee0784dabd937b9ea2ec6b04cf49221718bc404d7cf37d945a9d60c6104a", func := "handloom/handloomlaw22.StackBack", spec := "stackBack", apart := false }
def StackBackSaid : Prop := stackBackRow.holds Try.pinned (OpenSpec.ofChange stackBackSpec)

/-- ITS FALSE NEIGHBOUR: 'it returns false'. Refute it at one input. -/
def stackBackWrong : ChangeSpec := { name := "stackBack", fn := fun _ => fun
  | [d1, d2, d3] => { results := [.lit (.bool false)], args := [d1, d2, d3] }
  | _ => none }
def StackBackWrongFalsely : Prop := stackBackRow.holds Try.pinned (OpenSpec.ofChange stackBackWrong)

/-- 'handloomlaw22.StackSlots': WHATEVER THE INPUT: true; the input reads as it did. -/
def stackSlotsSpec : ChangeSpec := { name := "stackSlots", fn := fun _ => fun
  | [d1, d2, d3, d4] => { results := [.lit (.bool true)], args := [d1, d2, d3, d4] }
  | _ => none }
def stackSlotsRow : OpenClaim := { program := "ytfflojbgikfbmaa", sum := "ebd1ee0784dabd937b9ea2ec6b04cf49221718bc404d7cf37d945a9d60c6104a", func := "handloom/handloomlaw22.StackSlots", spec := "stackSlots", apart := false }
def StackSlotsSaid : Prop := stackSlotsRow.holds Try.pinned (OpenSpec.ofChange stackSlotsSpec)

/-- ITS FALSE NEIGHBOUR: 'it returns false'. Refute it at one input. -/
def stackSlotsWrong : ChangeSpec := { name := "stackSlots", fn := fun _ => fun
  | [d1, d2, d3, d4] => { results := [.lit (.bool false)], args := [d1, d2, d3, d4] }
  | _ => none }
def StackSlotsWrongFalsely : Prop := stackSlotsRow.holds Try.pinned (OpenSpec.ofChange stackSlotsWrong)

/-- 'handloomlaw17.GraphTells': WHATEVER THE INPUT: true; the input reads as it did. -/
def graphTellsSpec : ChangeSpec := { name := "graphTells", fn := fun _ => fun
  | [d1, d2, d3, d4] => { results := [.lit (.bool true)], args := [d1, d2, d3, d4] }
  | _ => none }
def graphTellsRow : OpenClaim := { program := "ytfflojbgikfbmaa", sum := "ebd1ee0784dabd937b9ea2ec6b04cf49221718bc404d7cf37d945a9d60c6104a", func := "handloom/handloomlaw17.GraphTells", spec := "graphTells", unfollowed := true, recurses := true, apart := false }
def GraphTellsSaid : Prop := graphTellsRow.holds Try.pinned (OpenSpec.ofChange graphTellsSpec)

/-- ITS FALSE NEIGHBOUR: 'it returns false'. Refute it at one input. -/
def graphTellsWrong : ChangeSpec := { name := "graphTells", fn := fun _ => fun
  | [d1, d2, d3, d4] => { results := [.lit (.bool false)], args := [d1, d2, d3, d4] }
  | _ => none }
def GraphTellsWrongFalsely : Prop := graphTellsRow.holds Try.pinned (OpenSpec.ofChange graphTellsWrong)

/-- 'handloomlaw16.HeapRooms': WHATEVER THE INPUT: true; the input reads as it did. -/
def heapRoomsSpec : ChangeSpec := { name := "heapRooms", fn := fun _ => fun
  | [d1, d2] => { results := [.lit (.bool true)], args := [d1, d2] }
  | _ => none }
def heapRoomsRow : OpenClaim := { program := "ytfflojbgikfbmaa", sum := "ebd1ee0784dabd937b9ea2ec6b04cf49221718bc404d7cf37d945a9d60c6104a", func := "handloom/handloomlaw16.HeapRooms", spec := "heapRooms", apart := false }
def HeapRoomsSaid : Prop := heapRoomsRow.holds Try.pinned (OpenSpec.ofChange heapRoomsSpec)

/-- ITS FALSE NEIGHBOUR: 'it returns false'. Refute it at one input. -/
def heapRoomsWrong : ChangeSpec := { name := "heapRooms", fn := fun _ => fun
  | [d1, d2] => { results := [.lit (.bool false)], args := [d1, d2] }
  | _ => none }
def HeapRoomsWrongFalsely : Prop := heapRoomsRow.holds Try.pinned (OpenSpec.ofChange heapRoomsWrong)

/-- 'handloomlaw22.StackPlays': WHATEVER THE INPUT: true; the input reads as it did. -/
def stackPlaysSpec : ChangeSpec := { name := "stackPlays", fn := fun _ => fun
  | [d1, d2] => { results := [.lit (.bool true)], args := [d1, d2] }
  | _ => none }
def stackPlaysRow : OpenClaim := { program := "ytfflojbgikfbmaa", sum := "ebd1ee0784dabd937b9ea2ec6b04cf49221718bc404d7cf37d945a9d60c6104a", func := "handloom/handloomlaw22.StackPlays", spec := "stackPlays", apart := false }
def StackPlaysSaid : Prop := stackPlaysRow.holds Try.pinned (OpenSpec.ofChange stackPlaysSpec)

/-- ITS FALSE NEIGHBOUR: 'it returns false'. Refute it at one input. -/
def stackPlaysWrong : ChangeSpec := { name := "stackPlays", fn := fun _ => fun
  | [d1, d2] => { results := [.lit (.bool false)], args := [d1, d2] }
  | _ => none }
def StackPlaysWrongFalsely : Prop := stackPlaysRow.holds Try.pinned (OpenSpec.ofChange stackPlaysWrong)

/-- 'handloomlaw16.HeapMoves': WHATEVER THE INPUT: true; the input reads as it did. -/
def heapMovesSpec : ChangeSpec := { name := "heapMoves", fn := fun _ => fun
  | [d1, d2] => { results := [.lit (.bool true)], args := [d1, d2] }
  | _ => none }
def heapMovesRow : OpenClaim := { program := "ytfflojbgikfbmaa", sum := "ebd1ee0784dabd937b9ea2ec6b04cf49221718bc404d7cf37d945a9d60c6104a", func := "handloom/handloomlaw16.HeapMoves", spec := "heapMoves", apart := false }
def HeapMovesSaid : Prop := heapMovesRow.holds Try.pinned (OpenSpec.ofChange heapMovesSpec)

/-- ITS FALSE NEIGHBOUR: 'it returns false'. Refute it at one input. -/
def heapMovesWrong : ChangeSpec := { name := "heapMoves", fn := fun _ => fun
  | [d1, d2] => { results := [.lit (.bool false)], args := [d1, d2] }
  | _ => none }
def HeapMovesWrongFalsely : Prop := heapMovesRow.holds Try.pinned (OpenSpec.ofChange heapMovesWrong)

/-- 'handloomlaw16.HeapTells': WHATEVER THE INPUT: true; the input reads as it did. -/
def heapTellsSpec : ChangeSpec := { name := "heapTells", fn := fun _ => fun
  | [d1, d2, d3, d4] => { results := [.lit (.bool true)], args := [d1, d2, d3, d4] }
  | _ => none }
def heapTellsRow : OpenClaim := { program := "ytfflojbgikfbmaa", sum := "ebd1ee0784dabd937b9ea2ec6b04cf49221718bc404d7cf37d945a9d60c6104a", func := "handloom/handloomlaw16.HeapTells", spec := "heapTells", unfollowed := true, recurses := true, apart := false }
def HeapTellsSaid : Prop := heapTellsRow.holds Try.pinned (OpenSpec.ofChange heapTellsSpec)

/-- ITS FALSE NEIGHBOUR: 'it returns false'. Refute it at one input. -/
def heapTellsWrong : ChangeSpec := { name := "heapTells", fn := fun _ => fun
  | [d1, d2, d3, d4] => { results := [.lit (.bool false)], args := [d1, d2, d3, d4] }
  | _ => none }
def HeapTellsWrongFalsely : Prop := heapTellsRow.holds Try.pinned (OpenSpec.ofChange heapTellsWrong)

/-- 'handloomlaw16.HeapBack': WHATEVER THE INPUT: true; the input reads as it did. -/
def heapBackSpec : ChangeSpec := { name := "heapBack", fn := fun _ => fun
  | [d1, d2, d3, d4] => { results := [.lit (.bool true)], args := [d1, d2, d3, d4] }
  | _ => none }
def heapBackRow : OpenClaim := { program := "ytfflojbgikfbmaa", sum := "ebd1ee0784dabd937b9ea2ec6b04cf49221718bc404d7cf37d945a9d60c6104a", func := "handloom/handloomlaw16.HeapBack", spec := "heapBack", unfollowed := true, recurses := true, apart := false }
def HeapBackSaid : Prop := heapBackRow.holds Try.pinned (OpenSpec.ofChange heapBackSpec)

/-- ITS FALSE NEIGHBOUR: 'it returns false'. Refute it at one input. -/
def heapBackWrong : ChangeSpec := { name := "heapBack", fn := fun _ => fun
  | [d1, d2, d3, d4] => { results := [.lit (.bool false)], args := [d1, d2, d3, d4] }
  | _ => none }
def HeapBackWrongFalsely : Prop := heapBackRow.holds Try.pinned (OpenSpec.ofChange heapBackWrong)

/-- 'handloomlaw16.HeapPlays': WHATEVER THE INPUT: true; the input reads as it did. -/
def heapPlaysSpec : ChangeSpec := { name := "heapPlays", fn := fun _ => fun
  | [d1, d2, d3] => { results := [.lit (.bool true)], args := [d1, d2, d3] }
  | _ => none }
def heapPlaysRow : OpenClaim := { program := "ytfflojbgikfbmaa", sum := "ebd1ee0784dabd937b9ea2ec6b04cf49221718bc404d7cf37d945a9d60c6104a", func := "handloom/handloomlaw16.HeapPlays", spec := "heapPlays", apart := false }
def HeapPlaysSaid : Prop := heapPlaysRow.holds Try.pinned (OpenSpec.ofChange heapPlaysSpec)

/-- ITS FALSE NEIGHBOUR: 'it returns false'. Refute it at one input. -/
def heapPlaysWrong : ChangeSpec := { name := "heapPlays", fn := fun _ => fun
  | [d1, d2, d3] => { results := [.lit (.bool false)], args := [d1, d2, d3] }
  | _ => none }
def HeapPlaysWrongFalsely : Prop := heapPlaysRow.holds Try.pinned (OpenSpec.ofChange heapPlaysWrong)

/-- 'handloomlaw17.GraphUsed': WHATEVER THE INPUT: true; the input reads as it did. -/
def graphUsedSpec : ChangeSpec := { name := "graphUsed", fn := fun _ => fun
  | [d1, d2, d3] => { results := [.lit (.bool true)], args := [d1, d2, d3] }
  | _ => none }
def graphUsedRow : OpenClaim := { program := "ytfflojbgikfbmaa", sum := "ebd1ee0784dabd937b9ea2ec6b04cf49221718bc404d7cf37d945a9d60c6104a", func := "handloom/handloomlaw17.GraphUsed", spec := "graphUsed", unfollowed := true, recurses := true, apart := false }
def GraphUsedSaid : Prop := graphUsedRow.holds Try.pinned (OpenSpec.ofChange graphUsedSpec)

/-- ITS FALSE NEIGHBOUR: 'it returns false'. Refute it at one input. -/
def graphUsedWrong : ChangeSpec := { name := "graphUsed", fn := fun _ => fun
  | [d1, d2, d3] => { results := [.lit (.bool false)], args := [d1, d2, d3] }
  | _ => none }
def GraphUsedWrongFalsely : Prop := graphUsedRow.holds Try.pinned (OpenSpec.ofChange graphUsedWrong)

/- THE SECOND FORM. 'bulk': how many values and letters a reading holds, each counted each time it is reached (what is shared counts as often as it is met; a slice's spare places count too). A statement '..UptoSaid' is the law's where the arguments, and the package variables that the reading takes, are together of bulk at most 1048576: NARROWER than '..Said'. Prove '..Said' where nothing that the law and all that it calls make is longer than what came in: it says more and counts as full. Else prove '..UptoSaid'. A law counts once. -/
mutual
def uptoBulk {H : Type} : DataW H → Nat
  | .lit (.string bytes) => bytes.length + 1
  | .lit _ => 1
  | .nil => 1
  | .ptr d => uptoBulk d + 1
  | .slice elems spare => uptoBulkAll elems + uptoBulkAll spare + 1
  | .agg parts => uptoBulkAll parts + 1
  | .iface _ d => uptoBulk d + 1
  | .map entries => uptoBulkEntries entries + 1
  | .held _ => 1
def uptoBulkAll {H : Type} : List (DataW H) → Nat
  | [] => 0
  | d :: r => uptoBulk d + uptoBulkAll r
def uptoBulkEntries {H : Type} : List (Lit × DataW H) → Nat
  | [] => 0
  | x :: r => uptoBulkEntry x + uptoBulkEntries r
def uptoBulkEntry {H : Type} : Lit × DataW H → Nat
  | (.string bytes, d) => bytes.length + uptoBulk d + 1
  | (_, d) => uptoBulk d + 1
 end
def uptoSmall : (H : Type) → List (DataW H) → Bool := fun _ ds => decide (uptoBulkAll ds ≤ 1048576)
def OpenSpec.upto (s : _root_.Go.ChangeSpec) : _root_.Go.OpenSpec := { _root_.Go.OpenSpec.ofChange s with cond := some uptoSmall }

/-- 'handloomlaw17.GraphOnce', WHERE WHAT IT READS IS OF BULK AT MOST 1048576: true; the input reads as it did. -/
def graphOnceUptoRow : OpenClaim := { program := "ytfflojbgikfbmaa", sum := "ebd1ee0784dabd937b9ea2ec6b04cf49221718bc404d7cf37d945a9d60c6104a", func := "handloom/handloomlaw17.GraphOnce", spec := "graphOnce", unfollowed := true, recurses := true, apart := false, narrowed := true }
def GraphOnceUptoSaid : Prop := graphOnceUptoRow.holds Try.pinned (OpenSpec.upto graphOnceSpec)

/-- 'handloomlaw22.StackBack', WHERE WHAT IT READS IS OF BULK AT MOST 1048576: true; the input reads as it did. -/
def stackBackUptoRow : OpenClaim := { program := "ytfflojbgikfbmaa", sum := "ebd1ee0784dabd937b9ea2ec6b04cf49221718bc404d7cf37d945a9d60c6104a", func := "handloom/handloomlaw22.StackBack", spec := "stackBack", apart := false, narrowed := true }
def StackBackUptoSaid : Prop := stackBackUptoRow.holds Try.pinned (OpenSpec.upto stackBackSpec)

/-- 'handloomlaw22.StackSlots', WHERE WHAT IT READS IS OF BULK AT MOST 1048576: true; the input reads as it did. -/
def stackSlotsUptoRow : OpenClaim := { program := "ytfflojbgikfbmaa", sum := "ebd1ee0784dabd937b9ea2ec6b04cf49221718bc404d7cf37d945a9d60c6104a", func := "handloom/handloomlaw22.StackSlots", spec := "stackSlots", apart := false, narrowed := true }
def StackSlotsUptoSaid : Prop := stackSlotsUptoRow.holds Try.pinned (OpenSpec.upto stackSlotsSpec)

/-- 'handloomlaw17.GraphTells', WHERE WHAT IT READS IS OF BULK AT MOST 1048576: true; the input reads as it did. -/
def graphTellsUptoRow : OpenClaim := { program := "ytfflojbgikfbmaa", sum := "ebd1ee0784dabd937b9ea2ec6b04cf49221718bc404d7cf37d945a9d60c6104a", func := "handloom/handloomlaw17.GraphTells", spec := "graphTells", unfollowed := true, recurses := true, apart := false, narrowed := true }
def GraphTellsUptoSaid : Prop := graphTellsUptoRow.holds Try.pinned (OpenSpec.upto graphTellsSpec)

/-- 'handloomlaw16.HeapRooms', WHERE WHAT IT READS IS OF BULK AT MOST 1048576: true; the input reads as it did. -/
def heapRoomsUptoRow : OpenClaim := { program := "ytfflojbgikfbmaa", sum := "ebd1ee0784dabd937b9ea2ec6b04cf49221718bc404d7cf37d945a9d60c6104a", func := "handloom/handloomlaw16.HeapRooms", spec := "heapRooms", apart := false, narrowed := true }
def HeapRoomsUptoSaid : Prop := heapRoomsUptoRow.holds Try.pinned (OpenSpec.upto heapRoomsSpec)

/-- 'handloomlaw22.StackPlays', WHERE WHAT IT READS IS OF BULK AT MOST 1048576: true; the input reads as it did. -/
def stackPlaysUptoRow : OpenClaim := { program := "ytfflojbgikfbmaa", sum := "ebd1ee0784dabd937b9ea2ec6b04cf49221718bc404d7cf37d945a9d60c6104a", func := "handloom/handloomlaw22.StackPlays", spec := "stackPlays", apart := false, narrowed := true }
def StackPlaysUptoSaid : Prop := stackPlaysUptoRow.holds Try.pinned (OpenSpec.upto stackPlaysSpec)

/-- 'handloomlaw16.HeapMoves', WHERE WHAT IT READS IS OF BULK AT MOST 1048576: true; the input reads as it did. -/
def heapMovesUptoRow : OpenClaim := { program := "ytfflojbgikfbmaa", sum := "ebd1ee0784dabd937b9ea2ec6b04cf49221718bc404d7cf37d945a9d60c6104a", func := "handloom/handloomlaw16.HeapMoves", spec := "heapMoves", apart := false, narrowed := true }
def HeapMovesUptoSaid : Prop := heapMovesUptoRow.holds Try.pinned (OpenSpec.upto heapMovesSpec)

/-- 'handloomlaw16.HeapTells', WHERE WHAT IT READS IS OF BULK AT MOST 1048576: true; the input reads as it did. -/
def heapTellsUptoRow : OpenClaim := { program := "ytfflojbgikfbmaa", sum := "ebd1ee0784dabd937b9ea2ec6b04cf49221718bc404d7cf37d945a9d60c6104a", func := "handloom/handloomlaw16.HeapTells", spec := "heapTells", unfollowed := true, recurses := true, apart := false, narrowed := true }
def HeapTellsUptoSaid : Prop := heapTellsUptoRow.holds Try.pinned (OpenSpec.upto heapTellsSpec)

/-- 'handloomlaw16.HeapBack', WHERE WHAT IT READS IS OF BULK AT MOST 1048576: true; the input reads as it did. -/
def heapBackUptoRow : OpenClaim := { program := "ytfflojbgikfbmaa", sum := "ebd1ee0784dabd937b9ea2ec6b04cf49221718bc404d7cf37d945a9d60c6104a", func := "handloom/handloomlaw16.HeapBack", spec := "heapBack", unfollowed := true, recurses := true, apart := false, narrowed := true }
def HeapBackUptoSaid : Prop := heapBackUptoRow.holds Try.pinned (OpenSpec.upto heapBackSpec)

/-- 'handloomlaw16.HeapPlays', WHERE WHAT IT READS IS OF BULK AT MOST 1048576: true; the input reads as it did. -/
def heapPlaysUptoRow : OpenClaim := { program := "ytfflojbgikfbmaa", sum := "ebd1ee0784dabd937b9ea2ec6b04cf49221718bc404d7cf37d945a9d60c6104a", func := "handloom/handloomlaw16.HeapPlays", spec := "heapPlays", apart := false, narrowed := true }
def HeapPlaysUptoSaid : Prop := heapPlaysUptoRow.holds Try.pinned (OpenSpec.upto heapPlaysSpec)

/-- 'handloomlaw17.GraphUsed', WHERE WHAT IT READS IS OF BULK AT MOST 1048576: true; the input reads as it did. -/
def graphUsedUptoRow : OpenClaim := { program := "ytfflojbgikfbmaa", sum := "ebd1ee0784dabd937b9ea2ec6b04cf49221718bc404d7cf37d945a9d60c6104a", func := "handloom/handloomlaw17.GraphUsed", spec := "graphUsed", unfollowed := true, recurses := true, apart := false, narrowed := true }
def GraphUsedUptoSaid : Prop := graphUsedUptoRow.holds Try.pinned (OpenSpec.upto graphUsedSpec)

end Rows
end Go.Proofs.Ytfflojbgikfbmaa

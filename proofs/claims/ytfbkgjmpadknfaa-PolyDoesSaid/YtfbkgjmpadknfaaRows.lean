/-
  No cell of these rows narrows 'for every input' (looked for: loops, veiled, ifaces, maps, wideKeys, modest, calm, conditions, laid).
  DERIVED. THE GIVEN ROWS OF THIS SEAT. 9 by the template 'for every input the law returns true; each argument reads behind the call as it read before'; 0 by the template 'total and deterministic' (their statements: YtfbkgjmpadknfaaTotals.lean).
  GIVEN WITH THE SEED: the statements are not yours to turn. If you find one false, say at which input.
  Laid BY PROGRAM, IN A SANDBOX (cutbox-rows.mjs): the forced cells as the released guide's own fill.sh prints them over the translation f2309792b5c6c881… (all of the seat's roots in one cut). By AI agents, Wed Nov 11 2026. No macro, syntax, notation, axiom, sorry.
-/
import Derived.Test.YtfbkgjmpadknfaaChecked
import GoSem.Claim
import GoSem.ClaimJoined
import GoSem.ClaimMapViews
import Derived.JoinedTies
import Derived.KernelRfl
namespace Go.Proofs.Ytfbkgjmpadknfaa
/- THE CELL 'sum', in the pinned program and in every row, IS THE sha256 OF THE DUMP (.gsa) THAT YtfbkgjmpadknfaaProg.lean LOADS. Nothing in Lean hashes anything: it is a label: what it is worth is what the hold of that sum in a sandbox is worth. -/
noncomputable def Try.pinned : Pinned := { name := "ytfbkgjmpadknfaa", sum := "f2309792b5c6c881fb16d110ca02ca6d8e0a206924b18bb1ef346fc41b55050f", checked := Try.checked }
namespace Rows
def none {H : Type} : Left H := { results := [], args := [] }

/-- 'handloomlaw30.TimerTime': WHATEVER THE INPUT: true; the input reads as it did. -/
def timerTimeSpec : ChangeSpec := { name := "timerTime", fn := fun _ => fun
  | [d1, d2, d3] => { results := [.lit (.bool true)], args := [d1, d2, d3] }
  | _ => none }
def timerTimeRow : OpenClaim := { program := "ytfbkgjmpadknfaa", sum := "f2309792b5c6c881fb16d110ca02ca6d8e0a206924b18bb1ef346fc41b55050f", func := "handloom/handloomlaw30.TimerTime", spec := "timerTime", apart := false }
def TimerTimeSaid : Prop := timerTimeRow.holds Try.pinned (OpenSpec.ofChange timerTimeSpec)

/-- ITS FALSE NEIGHBOUR: 'it returns false'. Refute it at one input. -/
def timerTimeWrong : ChangeSpec := { name := "timerTime", fn := fun _ => fun
  | [d1, d2, d3] => { results := [.lit (.bool false)], args := [d1, d2, d3] }
  | _ => none }
def TimerTimeWrongFalsely : Prop := timerTimeRow.holds Try.pinned (OpenSpec.ofChange timerTimeWrong)

/-- 'handloomlaw13.PolyRing': WHATEVER THE INPUT: true; the input reads as it did. -/
def polyRingSpec : ChangeSpec := { name := "polyRing", fn := fun _ => fun
  | [d1, d2, d3] => { results := [.lit (.bool true)], args := [d1, d2, d3] }
  | _ => none }
def polyRingRow : OpenClaim := { program := "ytfbkgjmpadknfaa", sum := "f2309792b5c6c881fb16d110ca02ca6d8e0a206924b18bb1ef346fc41b55050f", func := "handloom/handloomlaw13.PolyRing", spec := "polyRing", unfollowed := true, recurses := true, apart := false }
def PolyRingSaid : Prop := polyRingRow.holds Try.pinned (OpenSpec.ofChange polyRingSpec)

/-- ITS FALSE NEIGHBOUR: 'it returns false'. Refute it at one input. -/
def polyRingWrong : ChangeSpec := { name := "polyRing", fn := fun _ => fun
  | [d1, d2, d3] => { results := [.lit (.bool false)], args := [d1, d2, d3] }
  | _ => none }
def PolyRingWrongFalsely : Prop := polyRingRow.holds Try.pinned (OpenSpec.ofChange polyRingWrong)

/-- 'handloomlaw13.PolyRises': WHATEVER THE INPUT: true; the input reads as it did. -/
def polyRisesSpec : ChangeSpec := { name := "polyRises", fn := fun _ => fun
  | [d1, d2, d3, d4, d5] => { results := [.lit (.bool true)], args := [d1, d2, d3, d4, d5] }
  | _ => none }
def polyRisesRow : OpenClaim := { program := "ytfbkgjmpadknfaa", sum := "f2309792b5c6c881fb16d110ca02ca6d8e0a206924b18bb1ef346fc41b55050f", func := "handloom/handloomlaw13.PolyRises", spec := "polyRises", unfollowed := true, recurses := true, apart := false }
def PolyRisesSaid : Prop := polyRisesRow.holds Try.pinned (OpenSpec.ofChange polyRisesSpec)

/-- ITS FALSE NEIGHBOUR: 'it returns false'. Refute it at one input. -/
def polyRisesWrong : ChangeSpec := { name := "polyRises", fn := fun _ => fun
  | [d1, d2, d3, d4, d5] => { results := [.lit (.bool false)], args := [d1, d2, d3, d4, d5] }
  | _ => none }
def PolyRisesWrongFalsely : Prop := polyRisesRow.holds Try.pinned (OpenSpec.ofChange polyRisesWrong)

/-- 'handloomlaw13.PolyPuts': WHATEVER THE INPUT: true; the input reads as it did. -/
def polyPutsSpec : ChangeSpec := { name := "polyPuts", fn := fun _ => fun
  | [d1, d2, d3] => { results := [.lit (.bool true)], args := [d1, d2, d3] }
  | _ => none }
def polyPutsRow : OpenClaim := { program := "ytfbkgjmpadknfaa", sum := "f2309792b5c6c881fb16d110ca02ca6d8e0a206924b18bb1ef346fc41b55050f", func := "handloom/handloomlaw13.PolyPuts", spec := "polyPuts", unfollowed := true, recurses := true, apart := false }
def PolyPutsSaid : Prop := polyPutsRow.holds Try.pinned (OpenSpec.ofChange polyPutsSpec)

/-- ITS FALSE NEIGHBOUR: 'it returns false'. Refute it at one input. -/
def polyPutsWrong : ChangeSpec := { name := "polyPuts", fn := fun _ => fun
  | [d1, d2, d3] => { results := [.lit (.bool false)], args := [d1, d2, d3] }
  | _ => none }
def PolyPutsWrongFalsely : Prop := polyPutsRow.holds Try.pinned (OpenSpec.ofChange polyPutsWrong)

/-- 'handloomlaw13.PolyDoes': WHATEVER THE INPUT: true; the input reads as it did. -/
def polyDoesSpec : ChangeSpec := { name := "polyDoes", fn := fun _ => fun
  | [d1, d2, d3] => { results := [.lit (.bool true)], args := [d1, d2, d3] }
  | _ => none }
def polyDoesRow : OpenClaim := { program := "ytfbkgjmpadknfaa", sum := "f2309792b5c6c881fb16d110ca02ca6d8e0a206924b18bb1ef346fc41b55050f", func := "handloom/handloomlaw13.PolyDoes", spec := "polyDoes", unfollowed := true, recurses := true, apart := false }
def PolyDoesSaid : Prop := polyDoesRow.holds Try.pinned (OpenSpec.ofChange polyDoesSpec)

/-- ITS FALSE NEIGHBOUR: 'it returns false'. Refute it at one input. -/
def polyDoesWrong : ChangeSpec := { name := "polyDoes", fn := fun _ => fun
  | [d1, d2, d3] => { results := [.lit (.bool false)], args := [d1, d2, d3] }
  | _ => none }
def PolyDoesWrongFalsely : Prop := polyDoesRow.holds Try.pinned (OpenSpec.ofChange polyDoesWrong)

/-- 'handloomlaw13.PolyTells': WHATEVER THE INPUT: true; the input reads as it did. -/
def polyTellsSpec : ChangeSpec := { name := "polyTells", fn := fun _ => fun
  | [d1, d2, d3, d4, d5] => { results := [.lit (.bool true)], args := [d1, d2, d3, d4, d5] }
  | _ => none }
def polyTellsRow : OpenClaim := { program := "ytfbkgjmpadknfaa", sum := "f2309792b5c6c881fb16d110ca02ca6d8e0a206924b18bb1ef346fc41b55050f", func := "handloom/handloomlaw13.PolyTells", spec := "polyTells", unfollowed := true, recurses := true, apart := false }
def PolyTellsSaid : Prop := polyTellsRow.holds Try.pinned (OpenSpec.ofChange polyTellsSpec)

/-- ITS FALSE NEIGHBOUR: 'it returns false'. Refute it at one input. -/
def polyTellsWrong : ChangeSpec := { name := "polyTells", fn := fun _ => fun
  | [d1, d2, d3, d4, d5] => { results := [.lit (.bool false)], args := [d1, d2, d3, d4, d5] }
  | _ => none }
def PolyTellsWrongFalsely : Prop := polyTellsRow.holds Try.pinned (OpenSpec.ofChange polyTellsWrong)

/-- 'handloomlaw13.PolyValues': WHATEVER THE INPUT: true; the input reads as it did. -/
def polyValuesSpec : ChangeSpec := { name := "polyValues", fn := fun _ => fun
  | [d1, d2, d3, d4] => { results := [.lit (.bool true)], args := [d1, d2, d3, d4] }
  | _ => none }
def polyValuesRow : OpenClaim := { program := "ytfbkgjmpadknfaa", sum := "f2309792b5c6c881fb16d110ca02ca6d8e0a206924b18bb1ef346fc41b55050f", func := "handloom/handloomlaw13.PolyValues", spec := "polyValues", unfollowed := true, recurses := true, apart := false }
def PolyValuesSaid : Prop := polyValuesRow.holds Try.pinned (OpenSpec.ofChange polyValuesSpec)

/-- ITS FALSE NEIGHBOUR: 'it returns false'. Refute it at one input. -/
def polyValuesWrong : ChangeSpec := { name := "polyValues", fn := fun _ => fun
  | [d1, d2, d3, d4] => { results := [.lit (.bool false)], args := [d1, d2, d3, d4] }
  | _ => none }
def PolyValuesWrongFalsely : Prop := polyValuesRow.holds Try.pinned (OpenSpec.ofChange polyValuesWrong)

/-- 'handloomlaw30.TimerOrder': WHATEVER THE INPUT: true; the input reads as it did. -/
def timerOrderSpec : ChangeSpec := { name := "timerOrder", fn := fun _ => fun
  | [d] => { results := [.lit (.bool true)], args := [d] }
  | _ => none }
def timerOrderRow : OpenClaim := { program := "ytfbkgjmpadknfaa", sum := "f2309792b5c6c881fb16d110ca02ca6d8e0a206924b18bb1ef346fc41b55050f", func := "handloom/handloomlaw30.TimerOrder", spec := "timerOrder", unfollowed := true, recurses := true, apart := false }
def TimerOrderSaid : Prop := timerOrderRow.holds Try.pinned (OpenSpec.ofChange timerOrderSpec)

/-- ITS FALSE NEIGHBOUR: 'it returns false'. Refute it at one input. -/
def timerOrderWrong : ChangeSpec := { name := "timerOrder", fn := fun _ => fun
  | [d] => { results := [.lit (.bool false)], args := [d] }
  | _ => none }
def TimerOrderWrongFalsely : Prop := timerOrderRow.holds Try.pinned (OpenSpec.ofChange timerOrderWrong)

/-- 'handloomlaw30.TimerPlays': WHATEVER THE INPUT: true; the input reads as it did. -/
def timerPlaysSpec : ChangeSpec := { name := "timerPlays", fn := fun _ => fun
  | [d1, d2, d3, d4, d5] => { results := [.lit (.bool true)], args := [d1, d2, d3, d4, d5] }
  | _ => none }
def timerPlaysRow : OpenClaim := { program := "ytfbkgjmpadknfaa", sum := "f2309792b5c6c881fb16d110ca02ca6d8e0a206924b18bb1ef346fc41b55050f", func := "handloom/handloomlaw30.TimerPlays", spec := "timerPlays", unfollowed := true, recurses := true, apart := false }
def TimerPlaysSaid : Prop := timerPlaysRow.holds Try.pinned (OpenSpec.ofChange timerPlaysSpec)

/-- ITS FALSE NEIGHBOUR: 'it returns false'. Refute it at one input. -/
def timerPlaysWrong : ChangeSpec := { name := "timerPlays", fn := fun _ => fun
  | [d1, d2, d3, d4, d5] => { results := [.lit (.bool false)], args := [d1, d2, d3, d4, d5] }
  | _ => none }
def TimerPlaysWrongFalsely : Prop := timerPlaysRow.holds Try.pinned (OpenSpec.ofChange timerPlaysWrong)

/- THE SECOND FORM. 'bulk': how many values and letters a reading holds, each counted each time it is reached (what is shared counts as often as it is met; a slice's spare places count too). A statement '..UptoSaid' is the law's where the arguments, and the package variables that the reading takes, are together of bulk at most 1048576: NARROWER than '..Said'. Prove '..Said' where nothing that the law and all that it calls make is longer than what came in: it says more and counts as full. Else prove '..UptoSaid'. A law counts once. -/
mutual
def uptoBulk {H : Type} : DataW H → Nat
  | .lit (.string bytes) => bytes.length + 1
  | .lit _ => 1
  | .nil => 1
  | .ptr d => uptoBulk d + 1
  | .slice elems spare => uptoBulkAll elems + uptoBulkAll spare + 1
  | .agg parts => uptoBulkAll parts + 1
  | .iface _ d => uptoBulk d + 1
  | .map entries => uptoBulkEntries entries + 1
  | .held _ => 1
def uptoBulkAll {H : Type} : List (DataW H) → Nat
  | [] => 0
  | d :: r => uptoBulk d + uptoBulkAll r
def uptoBulkEntries {H : Type} : List (Lit × DataW H) → Nat
  | [] => 0
  | x :: r => uptoBulkEntry x + uptoBulkEntries r
def uptoBulkEntry {H : Type} : Lit × DataW H → Nat
  | (.string bytes, d) => bytes.length + uptoBulk d + 1
  | (_, d) => uptoBulk d + 1
 end
def uptoSmall : (H : Type) → List (DataW H) → Bool := fun _ ds => decide (uptoBulkAll ds ≤ 1048576)
def OpenSpec.upto (s : _root_.Go.ChangeSpec) : _root_.Go.OpenSpec := { _root_.Go.OpenSpec.ofChange s with cond := some uptoSmall }

/-- 'handloomlaw30.TimerTime', WHERE WHAT IT READS IS OF BULK AT MOST 1048576: true; the input reads as it did. -/
def timerTimeUptoRow : OpenClaim := { program := "ytfbkgjmpadknfaa", sum := "f2309792b5c6c881fb16d110ca02ca6d8e0a206924b18bb1ef346fc41b55050f", func := "handloom/handloomlaw30.TimerTime", spec := "timerTime", apart := false, narrowed := true }
def TimerTimeUptoSaid : Prop := timerTimeUptoRow.holds Try.pinned (OpenSpec.upto timerTimeSpec)

/-- 'handloomlaw13.PolyRing', WHERE WHAT IT READS IS OF BULK AT MOST 1048576: true; the input reads as it did. -/
def polyRingUptoRow : OpenClaim := { program := "ytfbkgjmpadknfaa", sum := "f2309792b5c6c881fb16d110ca02ca6d8e0a206924b18bb1ef346fc41b55050f", func := "handloom/handloomlaw13.PolyRing", spec := "polyRing", unfollowed := true, recurses := true, apart := false, narrowed := true }
def PolyRingUptoSaid : Prop := polyRingUptoRow.holds Try.pinned (OpenSpec.upto polyRingSpec)

/-- 'handloomlaw13.PolyRises', WHERE WHAT IT READS IS OF BULK AT MOST 1048576: true; the input reads as it did. -/
def polyRisesUptoRow : OpenClaim := { program := "ytfbkgjmpadknfaa", sum := "f2309792b5c6c881fb16d110ca02ca6d8e0a206924b18bb1ef346fc41b55050f", func := "handloom/handloomlaw13.PolyRises", spec := "polyRises", unfollowed := true, recurses := true, apart := false, narrowed := true }
def PolyRisesUptoSaid : Prop := polyRisesUptoRow.holds Try.pinned (OpenSpec.upto polyRisesSpec)

/-- 'handloomlaw13.PolyPuts', WHERE WHAT IT READS IS OF BULK AT MOST 1048576: true; the input reads as it did. -/
def polyPutsUptoRow : OpenClaim := { program := "ytfbkgjmpadknfaa", sum := "f2309792b5c6c881fb16d110ca02ca6d8e0a206924b18bb1ef346fc41b55050f", func := "handloom/handloomlaw13.PolyPuts", spec := "polyPuts", unfollowed := true, recurses := true, apart := false, narrowed := true }
def PolyPutsUptoSaid : Prop := polyPutsUptoRow.holds Try.pinned (OpenSpec.upto polyPutsSpec)

/-- 'handloomlaw13.PolyDoes', WHERE WHAT IT READS IS OF BULK AT MOST 1048576: true; the input reads as it did. -/
def polyDoesUptoRow : OpenClaim := { program := "ytfbkgjmpadknfaa", sum := "f2309792b5c6c881fb16d110ca02ca6d8e0a206924b18bb1ef346fc41b55050f", func := "handloom/handloomlaw13.PolyDoes", spec := "polyDoes", unfollowed := true, recurses := true, apart := false, narrowed := true }
def PolyDoesUptoSaid : Prop := polyDoesUptoRow.holds Try.pinned (OpenSpec.upto polyDoesSpec)

/-- 'handloomlaw13.PolyTells', WHERE WHAT IT READS IS OF BULK AT MOST 1048576: true; the input reads as it did. -/
def polyTellsUptoRow : OpenClaim := { program := "ytfbkgjmpadknfaa", sum := "f2309792b5c6c881fb16d110ca02ca6d8e0a206924b18bb1ef346fc41b55050f", func := "handloom/handloomlaw13.PolyTells", spec := "polyTells", unfollowed := true, recurses := true, apart := false, narrowed := true }
def PolyTellsUptoSaid : Prop := polyTellsUptoRow.holds Try.pinned (OpenSpec.upto polyTellsSpec)

/-- 'handloomlaw13.PolyValues', WHERE WHAT IT READS IS OF BULK AT MOST 1048576: true; the input reads as it did. -/
def polyValuesUptoRow : OpenClaim := { program := "ytfbkgjmpadknfaa", sum := "f2309792b5c6c881fb16d110ca02ca6d8e0a206924b18bb1ef346fc41b55050f", func := "handloom/handloomlaw13.PolyValues", spec := "polyValues", unfollowed := true, recurses := true, apart := false, narrowed := true }
def PolyValuesUptoSaid : Prop := polyValuesUptoRow.holds Try.pinned (OpenSpec.upto polyValuesSpec)

/-- 'handloomlaw30.TimerOrder', WHERE WHAT IT READS IS OF BULK AT MOST 1048576: true; the input reads as it did. -/
def timerOrderUptoRow : OpenClaim := { program := "ytfbkgjmpadknfaa", sum := "f2309792b5c6c881fb16d110ca02ca6d8e0a206924b18bb1ef346fc41b55050f", func := "handloom/handloomlaw30.TimerOrder", spec := "timerOrder", unfollowed := true, recurses := true, apart := false, narrowed := true }
def TimerOrderUptoSaid : Prop := timerOrderUptoRow.holds Try.pinned (OpenSpec.upto timerOrderSpec)

/-- 'handloomlaw30.TimerPlays', WHERE WHAT IT READS IS OF BULK AT MOST 1048576: true; the input reads as it did. -/
def timerPlaysUptoRow : OpenClaim := { program := "ytfbkgjmpadknfaa", sum := "f2309792b5c6c881fb16d110ca02ca6d8e0a206924b18bb1ef346fc41b55050f", func := "handloom/handloomlaw30.TimerPlays", spec := "timerPlays", unfollowed := true, recurses := true, apart := false, narrowed := true }
def TimerPlaysUptoSaid : Prop := timerPlaysUptoRow.holds Try.pinned (OpenSpec.upto timerPlaysSpec)

end Rows
end Go.Proofs.Ytfbkgjmpadknfaa

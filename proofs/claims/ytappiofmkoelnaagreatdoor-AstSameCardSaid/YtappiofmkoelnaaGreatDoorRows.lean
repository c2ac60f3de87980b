/-
  NARROWER THAN 'FOR EVERY INPUT', by the rows' own cells (each row's printed sentence says how): AstFits: loops, laid · TyFills: loops, laid · AstTells: loops, laid · AstSame: loops, laid.
  DERIVED. THE GIVEN ROWS OF THIS SEAT. 4 by the template 'for every input the law returns true; each argument reads behind the call as it read before'; 0 by the template 'total and deterministic' (their statements: YtappiofmkoelnaaGreatDoorTotals.lean).
  GIVEN WITH THE SEED: the statements are not yours to turn. If you find one false, say at which input.
  Laid BY PROGRAM, IN A SANDBOX (cutbox-rows.mjs): the forced cells as the released guide's own fill.sh prints them over the translation 76c04367af9dd78c… (all of the seat's roots in one cut). By AI agents, Wed Nov 11 2026. No macro, syntax, notation, axiom, sorry.
-/
import Derived.Test.YtappiofmkoelnaaGreatDoorChecked
import GoSem.PinnedTables
import GoSem.Claim
import GoSem.ClaimJoined
import GoSem.ClaimMapViews
import Derived.JoinedTies
import Derived.KernelRfl
namespace Go.Proofs.YtappiofmkoelnaaGreatDoor
/- THE CELL 'sum', in the pinned program and in every row, IS THE sha256 OF THE DUMP (.gsa) THAT YtappiofmkoelnaaGreatDoorProg.lean LOADS. Nothing in Lean hashes anything: it is a label: what it is worth is what the hold of that sum in a sandbox is worth. -/
noncomputable def Tryz.pinned : Pinned := { name := "ytappiofmkoelnaagreatdoor", sum := "76c04367af9dd78c42c549bb014828f452c1c8f97d93a95b90b711686f413dcb", checked := Tryz.checked }
namespace Rows
def none {H : Type} : Left H := { results := [], args := [] }

/- WHAT THE LISTED PACKAGE-LEVEL VARIABLES READ AS WHEN THE CALL BEGINS. Each datum BY PROGRAM (the guide's laid-datum.mjs) off the statement by which the dump's own 'gosem.cut.vars' lays the variable. In a bare row this is a premise. The card (YtappiofmkoelnaaGreatDoorCards.lean) ties it to the program's text. -/
def laid_unicode_utf8_acceptRanges {H : Type} : DataW H := .agg [.agg [.lit (.int .u8 128), .lit (.int .u8 191)], .agg [.lit (.int .u8 160), .lit (.int .u8 191)], .agg [.lit (.int .u8 128), .lit (.int .u8 159)], .agg [.lit (.int .u8 144), .lit (.int .u8 191)], .agg [.lit (.int .u8 128), .lit (.int .u8 143)], .agg [.lit (.int .u8 0), .lit (.int .u8 0)], .agg [.lit (.int .u8 0), .lit (.int .u8 0)], .agg [.lit (.int .u8 0), .lit (.int .u8 0)], .agg [.lit (.int .u8 0), .lit (.int .u8 0)], .agg [.lit (.int .u8 0), .lit (.int .u8 0)], .agg [.lit (.int .u8 0), .lit (.int .u8 0)], .agg [.lit (.int .u8 0), .lit (.int .u8 0)], .agg [.lit (.int .u8 0), .lit (.int .u8 0)], .agg [.lit (.int .u8 0), .lit (.int .u8 0)], .agg [.lit (.int .u8 0), .lit (.int .u8 0)], .agg [.lit (.int .u8 0), .lit (.int .u8 0)]]
/-- One of Go's own tables, pinned by name: the form's constant. -/
def laid_unicode_utf8_first : DataW Unit := Go.Pinned.utf8First

/-- 'handloomlaw04.AstFits': WHATEVER THE INPUT: true; the input reads as it did. -/
def astFitsSpec : ChangeSpec := { name := "astFits", fn := fun _ => fun
  | [d1, d2, d3, d4] => { results := [.lit (.bool true)], args := [d1, d2, d3, d4] }
  | _ => none }
def astFitsRow : OpenClaim := { program := "ytappiofmkoelnaagreatdoor", sum := "76c04367af9dd78c42c549bb014828f452c1c8f97d93a95b90b711686f413dcb", func := "handloom/handloomlaw04.AstFits", spec := "astFits", unfollowed := true, recurses := true, named := ["unicode/utf8.first", "unicode/utf8.acceptRanges"], loops := true, apart := false, laid := [("unicode/utf8.acceptRanges", laid_unicode_utf8_acceptRanges), ("unicode/utf8.first", laid_unicode_utf8_first)] }
def AstFitsSaid : Prop := astFitsRow.holds Tryz.pinned (OpenSpec.ofChange astFitsSpec)

/-- ITS FALSE NEIGHBOUR: 'it returns false'. Refute it at one input. -/
def astFitsWrong : ChangeSpec := { name := "astFits", fn := fun _ => fun
  | [d1, d2, d3, d4] => { results := [.lit (.bool false)], args := [d1, d2, d3, d4] }
  | _ => none }
def AstFitsWrongFalsely : Prop := astFitsRow.holds Tryz.pinned (OpenSpec.ofChange astFitsWrong)

/-- 'handloomlaw07.TyFills': WHATEVER THE INPUT: true; the input reads as it did. -/
def tyFillsSpec : ChangeSpec := { name := "tyFills", fn := fun _ => fun
  | [d1, d2] => { results := [.lit (.bool true)], args := [d1, d2] }
  | _ => none }
def tyFillsRow : OpenClaim := { program := "ytappiofmkoelnaagreatdoor", sum := "76c04367af9dd78c42c549bb014828f452c1c8f97d93a95b90b711686f413dcb", func := "handloom/handloomlaw07.TyFills", spec := "tyFills", unfollowed := true, recurses := true, named := ["unicode/utf8.first", "unicode/utf8.acceptRanges"], loops := true, apart := false, laid := [("unicode/utf8.acceptRanges", laid_unicode_utf8_acceptRanges), ("unicode/utf8.first", laid_unicode_utf8_first)] }
def TyFillsSaid : Prop := tyFillsRow.holds Tryz.pinned (OpenSpec.ofChange tyFillsSpec)

/-- ITS FALSE NEIGHBOUR: 'it returns false'. Refute it at one input. -/
def tyFillsWrong : ChangeSpec := { name := "tyFills", fn := fun _ => fun
  | [d1, d2] => { results := [.lit (.bool false)], args := [d1, d2] }
  | _ => none }
def TyFillsWrongFalsely : Prop := tyFillsRow.holds Tryz.pinned (OpenSpec.ofChange tyFillsWrong)

/-- 'handloomlaw04.AstTells': WHATEVER THE INPUT: true; the input reads as it did. -/
def astTellsSpec : ChangeSpec := { name := "astTells", fn := fun _ => fun
  | [d1, d2, d3, d4] => { results := [.lit (.bool true)], args := [d1, d2, d3, d4] }
  | _ => none }
def astTellsRow : OpenClaim := { program := "ytappiofmkoelnaagreatdoor", sum := "76c04367af9dd78c42c549bb014828f452c1c8f97d93a95b90b711686f413dcb", func := "handloom/handloomlaw04.AstTells", spec := "astTells", unfollowed := true, recurses := true, named := ["unicode/utf8.first", "unicode/utf8.acceptRanges"], loops := true, apart := false, laid := [("unicode/utf8.acceptRanges", laid_unicode_utf8_acceptRanges), ("unicode/utf8.first", laid_unicode_utf8_first)] }
def AstTellsSaid : Prop := astTellsRow.holds Tryz.pinned (OpenSpec.ofChange astTellsSpec)

/-- ITS FALSE NEIGHBOUR: 'it returns false'. Refute it at one input. -/
def astTellsWrong : ChangeSpec := { name := "astTells", fn := fun _ => fun
  | [d1, d2, d3, d4] => { results := [.lit (.bool false)], args := [d1, d2, d3, d4] }
  | _ => none }
def AstTellsWrongFalsely : Prop := astTellsRow.holds Tryz.pinned (OpenSpec.ofChange astTellsWrong)

/-- 'handloomlaw04.AstSame': WHATEVER THE INPUT: true; the input reads as it did. -/
def astSameSpec : ChangeSpec := { name := "astSame", fn := fun _ => fun
  | [d1, d2, d3] => { results := [.lit (.bool true)], args := [d1, d2, d3] }
  | _ => none }
def astSameRow : OpenClaim := { program := "ytappiofmkoelnaagreatdoor", sum := "76c04367af9dd78c42c549bb014828f452c1c8f97d93a95b90b711686f413dcb", func := "handloom/handloomlaw04.AstSame", spec := "astSame", unfollowed := true, recurses := true, named := ["unicode/utf8.first", "unicode/utf8.acceptRanges"], loops := true, apart := false, laid := [("unicode/utf8.acceptRanges", laid_unicode_utf8_acceptRanges), ("unicode/utf8.first", laid_unicode_utf8_first)] }
def AstSameSaid : Prop := astSameRow.holds Tryz.pinned (OpenSpec.ofChange astSameSpec)

/-- ITS FALSE NEIGHBOUR: 'it returns false'. Refute it at one input. -/
def astSameWrong : ChangeSpec := { name := "astSame", fn := fun _ => fun
  | [d1, d2, d3] => { results := [.lit (.bool false)], args := [d1, d2, d3] }
  | _ => none }
def AstSameWrongFalsely : Prop := astSameRow.holds Tryz.pinned (OpenSpec.ofChange astSameWrong)

/- THE SECOND FORM. 'bulk': how many values and letters a reading holds, each counted each time it is reached (what is shared counts as often as it is met; a slice's spare places count too). A statement '..UptoSaid' is the law's where the arguments, and the package variables that the reading takes, are together of bulk at most 1048576: NARROWER than '..Said'. Prove '..Said' where nothing that the law and all that it calls make is longer than what came in: it says more and counts as full. Else prove '..UptoSaid'. A law counts once. -/
mutual
def uptoBulk {H : Type} : DataW H → Nat
  | .lit (.string bytes) => bytes.length + 1
  | .lit _ => 1
  | .nil => 1
  | .ptr d => uptoBulk d + 1
  | .slice elems spare => uptoBulkAll elems + uptoBulkAll spare + 1
  | .agg parts => uptoBulkAll parts + 1
  | .iface _ d => uptoBulk d + 1
  | .map entries => uptoBulkEntries entries + 1
  | .held _ => 1
def uptoBulkAll {H : Type} : List (DataW H) → Nat
  | [] => 0
  | d :: r => uptoBulk d + uptoBulkAll r
def uptoBulkEntries {H : Type} : List (Lit × DataW H) → Nat
  | [] => 0
  | x :: r => uptoBulkEntry x + uptoBulkEntries r
def uptoBulkEntry {H : Type} : Lit × DataW H → Nat
  | (.string bytes, d) => bytes.length + uptoBulk d + 1
  | (_, d) => uptoBulk d + 1
 end
def uptoSmall : (H : Type) → List (DataW H) → Bool := fun _ ds => decide (uptoBulkAll ds ≤ 1048576)
def OpenSpec.upto (s : _root_.Go.ChangeSpec) : _root_.Go.OpenSpec := { _root_.Go.OpenSpec.ofChange s with cond := some uptoSmall }

/-- 'handloomlaw04.AstFits', WHERE WHAT IT READS IS OF BULK AT MOST 1048576: true; the input reads as it did. -/
def astFitsUptoRow : OpenClaim := { program := "ytappiofmkoelnaagreatdoor", sum := "76c04367af9dd78c42c549bb014828f452c1c8f97d93a95b90b711686f413dcb", func := "handloom/handloomlaw04.AstFits", spec := "astFits", unfollowed := true, recurses := true, named := ["unicode/utf8.first", "unicode/utf8.acceptRanges"], loops := true, apart := false, laid := [("unicode/utf8.acceptRanges", laid_unicode_utf8_acceptRanges), ("unicode/utf8.first", laid_unicode_utf8_first)], narrowed := true }
def AstFitsUptoSaid : Prop := astFitsUptoRow.holds Tryz.pinned (OpenSpec.upto astFitsSpec)

/-- 'handloomlaw07.TyFills', WHERE WHAT IT READS IS OF BULK AT MOST 1048576: true; the input reads as it did. -/
def tyFillsUptoRow : OpenClaim := { program := "ytappiofmkoelnaagreatdoor", sum := "76c04367af9dd78c42c549bb014828f452c1c8f97d93a95b90b711686f413dcb", func := "handloom/handloomlaw07.TyFills", spec := "tyFills", unfollowed := true, recurses := true, named := ["unicode/utf8.first", "unicode/utf8.acceptRanges"], loops := true, apart := false, laid := [("unicode/utf8.acceptRanges", laid_unicode_utf8_acceptRanges), ("unicode/utf8.first", laid_unicode_utf8_first)], narrowed := true }
def TyFillsUptoSaid : Prop := tyFillsUptoRow.holds Tryz.pinned (OpenSpec.upto tyFillsSpec)

/-- 'handloomlaw04.AstTells', WHERE WHAT IT READS IS OF BULK AT MOST 1048576: true; the input reads as it did. -/
def astTellsUptoRow : OpenClaim := { program := "ytappiofmkoelnaagreatdoor", sum := "76c04367af9dd78c42c549bb014828f452c1c8f97d93a95b90b711686f413dcb", func := "handloom/handloomlaw04.AstTells", spec := "astTells", unfollowed := true, recurses := true, named := ["unicode/utf8.first", "unicode/utf8.acceptRanges"], loops := true, apart := false, laid := [("unicode/utf8.acceptRanges", laid_unicode_utf8_acceptRanges), ("unicode/utf8.first", laid_unicode_utf8_first)], narrowed := true }
def AstTellsUptoSaid : Prop := astTellsUptoRow.holds Tryz.pinned (OpenSpec.upto astTellsSpec)

/-- 'handloomlaw04.AstSame', WHERE WHAT IT READS IS OF BULK AT MOST 1048576: true; the input reads as it did. -/
def astSameUptoRow : OpenClaim := { program := "ytappiofmkoelnaagreatdoor", sum := "76c04367af9dd78c42c549bb014828f452c1c8f97d93a95b90b711686f413dcb", func := "handloom/handloomlaw04.AstSame", spec := "astSame", unfollowed := true, recurses := true, named := ["unicode/utf8.first", "unicode/utf8.acceptRanges"], loops := true, apart := false, laid := [("unicode/utf8.acceptRanges", laid_unicode_utf8_acceptRanges), ("unicode/utf8.first", laid_unicode_utf8_first)], narrowed := true }
def AstSameUptoSaid : Prop := astSameUptoRow.holds Tryz.pinned (OpenSpec.upto astSameSpec)

end Rows
end Go.Proofs.YtappiofmkoelnaaGreatDoor

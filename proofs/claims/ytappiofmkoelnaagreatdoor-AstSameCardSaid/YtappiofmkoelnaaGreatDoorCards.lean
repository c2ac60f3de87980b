/-
  DERIVED. GIVEN WITH THE SEED: THE CARDS: each row of YtappiofmkoelnaaGreatDoorRows.lean that lists a variable, with what it lists TIED to the program's text (the seventh form; the later family's looks); each row that meets fmt, with fmt's text TOLD by the authors' own Lean function (tested against real Go, not proved from fmt's source: count such statements apart). THE CARD IS WHAT COUNTS. Prove the row's statement (the work); the ties are given (YtappiofmkoelnaaGreatDoorTie.lean); close each card by the builder's one call (the guide's Derived/Test/ToyasCard.lean, 'card_holds'). Laid BY PROGRAM, IN A SANDBOX (cutbox-door.mjs). By AI agents, Wed Nov 11 2026. No macro, syntax, notation, axiom, sorry.
-/
import Derived.Test.YtappiofmkoelnaaGreatDoorRows
import GoSem.ClaimSeven
namespace Go.Proofs.YtappiofmkoelnaaGreatDoor
namespace Rows

/-- THE TIED CARD OF 'handloomlaw04.AstFits'. -/
def astFitsCard : Claim7 := { stood := { row := astFitsRow, standIns := [], harness := (true, "1b9bf36e779a700491cb2de2ef068b369f1c40275e867e96399f41661e778de5"), looks := false }, kinds := [], alts := [], laidByText := true, laidKinds := [.data, .pinned], laidTests := true, laidLooks := .later }
def AstFitsCardSaid : Prop := Claim7.holds Tryz.pinned (.plain (OpenSpec.ofChange astFitsSpec)) astFitsCard

/-- THE TIED CARD OF 'handloomlaw07.TyFills'. -/
def tyFillsCard : Claim7 := { stood := { row := tyFillsRow, standIns := [], harness := (true, "1b9bf36e779a700491cb2de2ef068b369f1c40275e867e96399f41661e778de5"), looks := false }, kinds := [], alts := [], laidByText := true, laidKinds := [.data, .pinned], laidTests := true, laidLooks := .later }
def TyFillsCardSaid : Prop := Claim7.holds Tryz.pinned (.plain (OpenSpec.ofChange tyFillsSpec)) tyFillsCard

/-- THE TIED CARD OF 'handloomlaw04.AstTells'. -/
def astTellsCard : Claim7 := { stood := { row := astTellsRow, standIns := [], harness := (true, "1b9bf36e779a700491cb2de2ef068b369f1c40275e867e96399f41661e778de5"), looks := false }, kinds := [], alts := [], laidByText := true, laidKinds := [.data, .pinned], laidTests := true, laidLooks := .later }
def AstTellsCardSaid : Prop := Claim7.holds Tryz.pinned (.plain (OpenSpec.ofChange astTellsSpec)) astTellsCard

/-- THE TIED CARD OF 'handloomlaw04.AstSame'. -/
def astSameCard : Claim7 := { stood := { row := astSameRow, standIns := [], harness := (true, "1b9bf36e779a700491cb2de2ef068b369f1c40275e867e96399f41661e778de5"), looks := false }, kinds := [], alts := [], laidByText := true, laidKinds := [.data, .pinned], laidTests := true, laidLooks := .later }
def AstSameCardSaid : Prop := Claim7.holds Tryz.pinned (.plain (OpenSpec.ofChange astSameSpec)) astSameCard

/-- THE SECOND FORM's CARD OF 'handloomlaw04.AstFits'. -/
def astFitsUptoCard : Claim7 := { stood := { row := astFitsUptoRow, standIns := [], harness := (true, "1b9bf36e779a700491cb2de2ef068b369f1c40275e867e96399f41661e778de5"), looks := false }, kinds := [], alts := [], laidByText := true, laidKinds := [.data, .pinned], laidTests := true, laidLooks := .later }
def AstFitsUptoCardSaid : Prop := Claim7.holds Tryz.pinned (.plain (OpenSpec.upto astFitsSpec)) astFitsUptoCard

/-- THE SECOND FORM's CARD OF 'handloomlaw07.TyFills'. -/
def tyFillsUptoCard : Claim7 := { stood := { row := tyFillsUptoRow, standIns := [], harness := (true, "1b9bf36e779a700491cb2de2ef068b369f1c40275e867e96399f41661e778de5"), looks := false }, kinds := [], alts := [], laidByText := true, laidKinds := [.data, .pinned], laidTests := true, laidLooks := .later }
def TyFillsUptoCardSaid : Prop := Claim7.holds Tryz.pinned (.plain (OpenSpec.upto tyFillsSpec)) tyFillsUptoCard

/-- THE SECOND FORM's CARD OF 'handloomlaw04.AstTells'. -/
def astTellsUptoCard : Claim7 := { stood := { row := astTellsUptoRow, standIns := [], harness := (true, "1b9bf36e779a700491cb2de2ef068b369f1c40275e867e96399f41661e778de5"), looks := false }, kinds := [], alts := [], laidByText := true, laidKinds := [.data, .pinned], laidTests := true, laidLooks := .later }
def AstTellsUptoCardSaid : Prop := Claim7.holds Tryz.pinned (.plain (OpenSpec.upto astTellsSpec)) astTellsUptoCard

/-- THE SECOND FORM's CARD OF 'handloomlaw04.AstSame'. -/
def astSameUptoCard : Claim7 := { stood := { row := astSameUptoRow, standIns := [], harness := (true, "1b9bf36e779a700491cb2de2ef068b369f1c40275e867e96399f41661e778de5"), looks := false }, kinds := [], alts := [], laidByText := true, laidKinds := [.data, .pinned], laidTests := true, laidLooks := .later }
def AstSameUptoCardSaid : Prop := Claim7.holds Tryz.pinned (.plain (OpenSpec.upto astSameSpec)) astSameUptoCard
end Rows
end Go.Proofs.YtappiofmkoelnaaGreatDoor

/-
  NARROWER THAN 'FOR EVERY INPUT', by the rows' own cells (each row's printed sentence says how): TyNames: loops · TyMore: loops · TyTells: loops.
  DERIVED. THE GIVEN ROWS OF THIS SEAT. 3 by the template 'for every input the law returns true; each argument reads behind the call as it read before'; 0 by the template 'total and deterministic' (their statements: YtappiofmkoelnaaTotals.lean).
  GIVEN WITH THE SEED: the statements are not yours to turn. If you find one false, say at which input.
  Laid BY PROGRAM, IN A SANDBOX (cutbox-rows.mjs): the forced cells as the released guide's own fill.sh prints them over the translation b17ebe5c05a1d427… (all of the seat's roots in one cut). By AI agents, Wed Nov 11 2026. No macro, syntax, notation, axiom, sorry.
-/
import Derived.Test.YtappiofmkoelnaaChecked
import GoSem.Claim
import GoSem.ClaimJoined
import GoSem.ClaimMapViews
import Derived.JoinedTies
import Derived.KernelRfl
namespace Go.Proofs.Ytappiofmkoelnaa
/- THE CELL 'sum', in the pinned program and in every row, IS THE sha256 OF THE DUMP (.gsa) THAT YtappiofmkoelnaaProg.lean LOADS. Nothing in Lean hashes anything: it is a label: what it is worth is what the hold of that sum in a sandbox is worth. -/
noncomputable def Try.pinned : Pinned := { name := "ytappiofmkoelnaa", sum := "b17ebe5c05a1d4275bb95ec670b7247342758645be8fd589505df9288905c7ea", checked := Try.checked }
namespace Rows
def none {H : Type} : Left H := { results := [], args := [] }

/-- 'handloomlaw07.TyNames': WHATEVER THE INPUT: true; the input reads as it did. -/
def tyNamesSpec : ChangeSpec := { name := "tyNames", fn := fun _ => fun
  | [d1, d2] => { results := [.lit (.bool true)], args := [d1, d2] }
  | _ => none }
def tyNamesRow : OpenClaim := { program := "ytappiofmkoelnaa", sum := "b17ebe5c05a1d4275bb95ec670b7247342758645be8fd589505df9288905c7ea", func := "handloom/handloomlaw07.TyNames", spec := "tyNames", unfollowed := true, recurses := true, loops := true, apart := false }
def TyNamesSaid : Prop := tyNamesRow.holds Try.pinned (OpenSpec.ofChange tyNamesSpec)

/-- ITS FALSE NEIGHBOUR: 'it returns false'. Refute it at one input. -/
def tyNamesWrong : ChangeSpec := { name := "tyNames", fn := fun _ => fun
  | [d1, d2] => { results := [.lit (.bool false)], args := [d1, d2] }
  | _ => none }
def TyNamesWrongFalsely : Prop := tyNamesRow.holds Try.pinned (OpenSpec.ofChange tyNamesWrong)

/-- 'handloomlaw07.TyMore': WHATEVER THE INPUT: true; the input reads as it did. -/
def tyMoreSpec : ChangeSpec := { name := "tyMore", fn := fun _ => fun
  | [d1, d2] => { results := [.lit (.bool true)], args := [d1, d2] }
  | _ => none }
def tyMoreRow : OpenClaim := { program := "ytappiofmkoelnaa", sum := "b17ebe5c05a1d4275bb95ec670b7247342758645be8fd589505df9288905c7ea", func := "handloom/handloomlaw07.TyMore", spec := "tyMore", unfollowed := true, recurses := true, loops := true, apart := false }
def TyMoreSaid : Prop := tyMoreRow.holds Try.pinned (OpenSpec.ofChange tyMoreSpec)

/-- ITS FALSE NEIGHBOUR: 'it returns false'. Refute it at one input. -/
def tyMoreWrong : ChangeSpec := { name := "tyMore", fn := fun _ => fun
  | [d1, d2] => { results := [.lit (.bool false)], args := [d1, d2] }
  | _ => none }
def TyMoreWrongFalsely : Prop := tyMoreRow.holds Try.pinned (OpenSpec.ofChange tyMoreWrong)

/-- 'handloomlaw07.TyTells': WHATEVER THE INPUT: true; the input reads as it did. -/
def tyTellsSpec : ChangeSpec := { name := "tyTells", fn := fun _ => fun
  | [d1, d2, d3, d4, d5] => { results := [.lit (.bool true)], args := [d1, d2, d3, d4, d5] }
  | _ => none }
def tyTellsRow : OpenClaim := { program := "ytappiofmkoelnaa", sum := "b17ebe5c05a1d4275bb95ec670b7247342758645be8fd589505df9288905c7ea", func := "handloom/handloomlaw07.TyTells", spec := "tyTells", unfollowed := true, recurses := true, loops := true, apart := false }
def TyTellsSaid : Prop := tyTellsRow.holds Try.pinned (OpenSpec.ofChange tyTellsSpec)

/-- ITS FALSE NEIGHBOUR: 'it returns false'. Refute it at one input. -/
def tyTellsWrong : ChangeSpec := { name := "tyTells", fn := fun _ => fun
  | [d1, d2, d3, d4, d5] => { results := [.lit (.bool false)], args := [d1, d2, d3, d4, d5] }
  | _ => none }
def TyTellsWrongFalsely : Prop := tyTellsRow.holds Try.pinned (OpenSpec.ofChange tyTellsWrong)

/- THE SECOND FORM. 'bulk': how many values and letters a reading holds, each counted each time it is reached (what is shared counts as often as it is met; a slice's spare places count too). A statement '..UptoSaid' is the law's where the arguments, and the package variables that the reading takes, are together of bulk at most 1048576: NARROWER than '..Said'. Prove '..Said' where nothing that the law and all that it calls make is longer than what came in: it says more and counts as full. Else prove '..UptoSaid'. A law counts once. -/
mutual
def uptoBulk {H : Type} : DataW H → Nat
  | .lit (.string bytes) => bytes.length + 1
  | .lit _ => 1
  | .nil => 1
  | .ptr d => uptoBulk d + 1
  | .slice elems spare => uptoBulkAll elems + uptoBulkAll spare + 1
  | .agg parts => uptoBulkAll parts + 1
  | .iface _ d => uptoBulk d + 1
  | .map entries => uptoBulkEntries entries + 1
  | .held _ => 1
def uptoBulkAll {H : Type} : List (DataW H) → Nat
  | [] => 0
  | d :: r => uptoBulk d + uptoBulkAll r
def uptoBulkEntries {H : Type} : List (Lit × DataW H) → Nat
  | [] => 0
  | x :: r => uptoBulkEntry x + uptoBulkEntries r
def uptoBulkEntry {H : Type} : Lit × DataW H → Nat
  | (.string bytes, d) => bytes.length + uptoBulk d + 1
  | (_, d) => uptoBulk d + 1
 end
def uptoSmall : (H : Type) → List (DataW H) → Bool := fun _ ds => decide (uptoBulkAll ds ≤ 1048576)
def OpenSpec.upto (s : _root_.Go.ChangeSpec) : _root_.Go.OpenSpec := { _root_.Go.OpenSpec.ofChange s with cond := some uptoSmall }

/-- 'handloomlaw07.TyNames', WHERE WHAT IT READS IS OF BULK AT MOST 1048576: true; the input reads as it did. -/
def tyNamesUptoRow : OpenClaim := { program := "ytappiofmkoelnaa", sum := "b17ebe5c05a1d4275bb95ec670b7247342758645be8fd589505df9288905c7ea", func := "handloom/handloomlaw07.TyNames", spec := "tyNames", unfollowed := true, recurses := true, loops := true, apart := false, narrowed := true }
def TyNamesUptoSaid : Prop := tyNamesUptoRow.holds Try.pinned (OpenSpec.upto tyNamesSpec)

/-- 'handloomlaw07.TyMore', WHERE WHAT IT READS IS OF BULK AT MOST 1048576: true; the input reads as it did. -/
def tyMoreUptoRow : OpenClaim := { program := "ytappiofmkoelnaa", sum := "b17ebe5c05a1d4275bb95ec670b7247342758645be8fd589505df9288905c7ea", func := "handloom/handloomlaw07.TyMore", spec := "tyMore", unfollowed := true, recurses := true, loops := true, apart := false, narrowed := true }
def TyMoreUptoSaid : Prop := tyMoreUptoRow.holds Try.pinned (OpenSpec.upto tyMoreSpec)

/-- 'handloomlaw07.TyTells', WHERE WHAT IT READS IS OF BULK AT MOST 1048576: true; the input reads as it did. -/
def tyTellsUptoRow : OpenClaim := { program := "ytappiofmkoelnaa", sum := "b17ebe5c05a1d4275bb95ec670b7247342758645be8fd589505df9288905c7ea", func := "handloom/handloomlaw07.TyTells", spec := "tyTells", unfollowed := true, recurses := true, loops := true, apart := false, narrowed := true }
def TyTellsUptoSaid : Prop := tyTellsUptoRow.holds Try.pinned (OpenSpec.upto tyTellsSpec)

end Rows
end Go.Proofs.Ytappiofmkoelnaa

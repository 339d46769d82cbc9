/-
  DERIVED. GIVEN WITH THE SEED: THE CARDS: each row of YtnlhjbnpjefjgabGreatDoorRows.lean that lists a variable, with what it lists TIED to the program's text (the seventh form; the later family's looks); each row that meets fmt, with fmt's text TOLD by the authors' own Lean function (tested against real Go, not proved from fmt's source: count such statements apart). THE CARD IS WHAT COUNTS. Prove the row's statement (the work); the ties are given (YtnlhjbnpjefjgabGreatDoorTie.lean); close each card by the builder's one call (the guide's Derived/Test/ToyasCard.lean, 'card_holds'). Laid BY PROGRAM, IN A SANDBOX (cutbox-door.mjs). By AI agents, Wed Nov 11 2026. No macro, syntax, notation, axiom, sorry.
-/
import Derived.Test.YtnlhjbnpjefjgabGreatDoorRows
import GoSem.ClaimSeven
namespace Go.Proofs.YtnlhjbnpjefjgabGreatDoor
namespace Rows

/-- THE TIED CARD OF 'synthesislaw25.SpaceMany'. -/
def spaceManyCard : Claim7 := { stood := { row := spaceManyRow, standIns := [], harness := (true, "2f687f4a771acedf4e90598028c1ab1f5e246762f9b6d04b8e8e8d55cbdc5a5b"), looks := true }, kinds := [], alts := [], laidByText := true, laidKinds := [.data, .data, .data], laidTests := true, laidLooks := .later }
def SpaceManyCardSaid : Prop := Claim7.holds Tryz.pinned (.plain (OpenSpec.ofChange spaceManySpec)) spaceManyCard

/-- THE SECOND FORM's CARD OF 'synthesislaw25.SpaceMany'. -/
def spaceManyUptoCard : Claim7 := { stood := { row := spaceManyUptoRow, standIns := [], harness := (true, "2f687f4a771acedf4e90598028c1ab1f5e246762f9b6d04b8e8e8d55cbdc5a5b"), looks := true }, kinds := [], alts := [], laidByText := true, laidKinds := [.data, .data, .data], laidTests := true, laidLooks := .later }
def SpaceManyUptoCardSaid : Prop := Claim7.holds Tryz.pinned (.plain (OpenSpec.upto spaceManySpec)) spaceManyUptoCard
end Rows
end Go.Proofs.YtnlhjbnpjefjgabGreatDoor

/-
  DERIVED. GIVEN WITH THE SEED: THE CARDS: each row of YtchjomeomabamaaGreatDoorRows.lean that lists a variable, with what it lists TIED to the program's text (the seventh form; the later family's looks); each row that meets fmt, with fmt's text TOLD by the authors' own Lean function (tested against real Go, not proved from fmt's source: count such statements apart). THE CARD IS WHAT COUNTS. Prove the row's statement (the work); the ties are given (YtchjomeomabamaaGreatDoorTie.lean); close each card by the builder's one call (the guide's Derived/Test/ToyasCard.lean, 'card_holds'). Laid BY PROGRAM, IN A SANDBOX (cutbox-door.mjs). By AI agents, Wed Nov 11 2026. No macro, syntax, notation, axiom, sorry.
-/
import Derived.Test.YtchjomeomabamaaGreatDoorRows
import GoSem.ClaimSeven
namespace Go.Proofs.YtchjomeomabamaaGreatDoor
namespace Rows

/-- THE TIED CARD OF 'synthesislaw25.SpaceOf'. -/
def spaceOfCard : Claim7 := { stood := { row := spaceOfRow, standIns := [], harness := (true, "391b14b949f689338731bc6d96806d7bb54605e7e52da15fed85a7df4624a2b4"), looks := true }, kinds := [], alts := [], laidByText := true, laidKinds := [.data, .data, .data], laidTests := true, laidLooks := .later }
def SpaceOfCardSaid : Prop := Claim7.holds Tryz.pinned (.plain (OpenSpec.ofChange spaceOfSpec)) spaceOfCard

/-- THE SECOND FORM's CARD OF 'synthesislaw25.SpaceOf'. -/
def spaceOfUptoCard : Claim7 := { stood := { row := spaceOfUptoRow, standIns := [], harness := (true, "391b14b949f689338731bc6d96806d7bb54605e7e52da15fed85a7df4624a2b4"), looks := true }, kinds := [], alts := [], laidByText := true, laidKinds := [.data, .data, .data], laidTests := true, laidLooks := .later }
def SpaceOfUptoCardSaid : Prop := Claim7.holds Tryz.pinned (.plain (OpenSpec.upto spaceOfSpec)) spaceOfUptoCard
end Rows
end Go.Proofs.YtchjomeomabamaaGreatDoor

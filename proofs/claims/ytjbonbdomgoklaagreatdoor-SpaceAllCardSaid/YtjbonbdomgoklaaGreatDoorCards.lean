/-
  DERIVED. GIVEN WITH THE SEED: THE CARDS: each row of YtjbonbdomgoklaaGreatDoorRows.lean that lists a variable, with what it lists TIED to the program's text (the seventh form; the later family's looks); each row that meets fmt, with fmt's text TOLD by the authors' own Lean function (tested against real Go, not proved from fmt's source: count such statements apart). THE CARD IS WHAT COUNTS. Prove the row's statement (the work); the ties are given (YtjbonbdomgoklaaGreatDoorTie.lean); close each card by the builder's one call (the guide's Derived/Test/ToyasCard.lean, 'card_holds'). Laid BY PROGRAM, IN A SANDBOX (cutbox-door.mjs). By AI agents, Wed Nov 11 2026. No macro, syntax, notation, axiom, sorry.
-/
import Derived.Test.YtjbonbdomgoklaaGreatDoorRows
import GoSem.ClaimSeven
namespace Go.Proofs.YtjbonbdomgoklaaGreatDoor
namespace Rows

/-- THE TIED CARD OF 'synthesislaw25.SpaceAll'. -/
def spaceAllCard : Claim7 := { stood := { row := spaceAllRow, standIns := [], harness := (true, "e7f1e0aa69d5eda530a66b93db3c3bb95ac7cc0622ac79b13935bf3f56b60434"), looks := true }, kinds := [], alts := [], laidByText := true, laidKinds := [.data, .data, .data], laidTests := true, laidLooks := .later }
def SpaceAllCardSaid : Prop := Claim7.holds Tryz.pinned (.plain (OpenSpec.ofChange spaceAllSpec)) spaceAllCard

/-- THE SECOND FORM's CARD OF 'synthesislaw25.SpaceAll'. -/
def spaceAllUptoCard : Claim7 := { stood := { row := spaceAllUptoRow, standIns := [], harness := (true, "e7f1e0aa69d5eda530a66b93db3c3bb95ac7cc0622ac79b13935bf3f56b60434"), looks := true }, kinds := [], alts := [], laidByText := true, laidKinds := [.data, .data, .data], laidTests := true, laidLooks := .later }
def SpaceAllUptoCardSaid : Prop := Claim7.holds Tryz.pinned (.plain (OpenSpec.upto spaceAllSpec)) spaceAllUptoCard
end Rows
end Go.Proofs.YtjbonbdomgoklaaGreatDoor

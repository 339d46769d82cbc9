/-
  DERIVED. GIVEN WITH THE SEED: THE CARDS: each row of YtnlhjbnpjefjgaaGreatDoorRows.lean that lists a variable, with what it lists TIED to the program's text (the seventh form; the later family's looks); each row that meets fmt, with fmt's text TOLD by the authors' own Lean function (tested against real Go, not proved from fmt's source: count such statements apart). THE CARD IS WHAT COUNTS. Prove the row's statement (the work); the ties are given (YtnlhjbnpjefjgaaGreatDoorTie.lean); close each card by the builder's one call (the guide's Derived/Test/ToyasCard.lean, 'card_holds'). Laid BY PROGRAM, IN A SANDBOX (cutbox-door.mjs). By AI agents, Wed Nov 11 2026. No macro, syntax, notation, axiom, sorry.
-/
import Derived.Test.YtnlhjbnpjefjgaaGreatDoorRows
import GoSem.ClaimSeven
namespace Go.Proofs.YtnlhjbnpjefjgaaGreatDoor
namespace Rows

/-- THE TIED CARD OF 'synthesislaw25.SpaceTerms'. -/
def spaceTermsCard : Claim7 := { stood := { row := spaceTermsRow, standIns := [], harness := (true, "ee1c03b67fa9f0473768b444943c2472881a4b7dae99c5d20959a91b13544a8a"), looks := true }, kinds := [], alts := [], laidByText := true, laidKinds := [.data, .data, .data], laidTests := true, laidLooks := .later }
def SpaceTermsCardSaid : Prop := Claim7.holds Tryz.pinned (.plain (OpenSpec.ofChange spaceTermsSpec)) spaceTermsCard

/-- THE SECOND FORM's CARD OF 'synthesislaw25.SpaceTerms'. -/
def spaceTermsUptoCard : Claim7 := { stood := { row := spaceTermsUptoRow, standIns := [], harness := (true, "ee1c03b67fa9f0473768b444943c2472881a4b7dae99c5d20959a91b13544a8a"), looks := true }, kinds := [], alts := [], laidByText := true, laidKinds := [.data, .data, .data], laidTests := true, laidLooks := .later }
def SpaceTermsUptoCardSaid : Prop := Claim7.holds Tryz.pinned (.plain (OpenSpec.upto spaceTermsSpec)) spaceTermsUptoCard
end Rows
end Go.Proofs.YtnlhjbnpjefjgaaGreatDoor

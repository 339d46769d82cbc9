/-
  DERIVED. GIVEN WITH THE SEED: THE CARDS: each row of YtdnfbjahbkpibaaGreatDoorRows.lean that lists a variable, with what it lists TIED to the program's text (the seventh form; the later family's looks); each row that meets fmt, with fmt's text TOLD by the authors' own Lean function (tested against real Go, not proved from fmt's source: count such statements apart). THE CARD IS WHAT COUNTS. Prove the row's statement (the work); the ties are given (YtdnfbjahbkpibaaGreatDoorTie.lean); close each card by the builder's one call (the guide's Derived/Test/ToyasCard.lean, 'card_holds'). Laid BY PROGRAM, IN A SANDBOX (cutbox-door.mjs). By AI agents, Wed Nov 11 2026. No macro, syntax, notation, axiom, sorry.
-/
import Derived.Test.YtdnfbjahbkpibaaGreatDoorRows
import GoSem.ClaimSeven
namespace Go.Proofs.YtdnfbjahbkpibaaGreatDoor
namespace Rows

/-- THE TIED CARD OF 'synthesislaw34.SketchBack'. -/
def sketchBackCard : Claim7 := { stood := { row := sketchBackRow, standIns := [], harness := (true, "f609954bdea13bc5d1fe2bb8a7f1bd874e81da2938ab155d6f95a11331fb7e5f"), looks := true }, kinds := [], alts := [], laidByText := true, laidKinds := [.data, .data, .data, .data, .pinned], laidTests := true, laidLooks := .later }
def SketchBackCardSaid : Prop := Claim7.holds Tryz.pinned (.plain (OpenSpec.ofChange sketchBackSpec)) sketchBackCard

/-- THE SECOND FORM's CARD OF 'synthesislaw34.SketchBack'. -/
def sketchBackUptoCard : Claim7 := { stood := { row := sketchBackUptoRow, standIns := [], harness := (true, "f609954bdea13bc5d1fe2bb8a7f1bd874e81da2938ab155d6f95a11331fb7e5f"), looks := true }, kinds := [], alts := [], laidByText := true, laidKinds := [.data, .data, .data, .data, .pinned], laidTests := true, laidLooks := .later }
def SketchBackUptoCardSaid : Prop := Claim7.holds Tryz.pinned (.plain (OpenSpec.upto sketchBackSpec)) sketchBackUptoCard
end Rows
end Go.Proofs.YtdnfbjahbkpibaaGreatDoor

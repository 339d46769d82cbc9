/-
  DERIVED. GIVEN WITH THE SEED: THE CARDS: each row of YtjpkdegjcilndaaGreatDoorRows.lean that lists a variable, with what it lists TIED to the program's text (the seventh form; the later family's looks); each row that meets fmt, with fmt's text TOLD by the authors' own Lean function (tested against real Go, not proved from fmt's source: count such statements apart). THE CARD IS WHAT COUNTS. Prove the row's statement (the work); the ties are given (YtjpkdegjcilndaaGreatDoorTie.lean); close each card by the builder's one call (the guide's Derived/Test/ToyasCard.lean, 'card_holds'). Laid BY PROGRAM, IN A SANDBOX (cutbox-door.mjs). By AI agents, Wed Nov 11 2026. No macro, syntax, notation, axiom, sorry.
-/
import Derived.Test.YtjpkdegjcilndaaGreatDoorRows
import GoSem.ClaimSeven
namespace Go.Proofs.YtjpkdegjcilndaaGreatDoor
namespace Rows

/-- THE TIED CARD OF 'synthesislaw34.SketchOpens'. -/
def sketchOpensCard : Claim7 := { stood := { row := sketchOpensRow, standIns := [], harness := (true, "28ac551496ca2e95b96c27fcfbe469a9611d6c27861cb80d755a60df4faae824"), looks := true }, kinds := [], alts := [], laidByText := true, laidKinds := [.data, .data, .data, .data, .pinned], laidTests := true, laidLooks := .later }
def SketchOpensCardSaid : Prop := Claim7.holds Tryz.pinned (.plain (OpenSpec.ofChange sketchOpensSpec)) sketchOpensCard

/-- THE SECOND FORM's CARD OF 'synthesislaw34.SketchOpens'. -/
def sketchOpensUptoCard : Claim7 := { stood := { row := sketchOpensUptoRow, standIns := [], harness := (true, "28ac551496ca2e95b96c27fcfbe469a9611d6c27861cb80d755a60df4faae824"), looks := true }, kinds := [], alts := [], laidByText := true, laidKinds := [.data, .data, .data, .data, .pinned], laidTests := true, laidLooks := .later }
def SketchOpensUptoCardSaid : Prop := Claim7.holds Tryz.pinned (.plain (OpenSpec.upto sketchOpensSpec)) sketchOpensUptoCard
end Rows
end Go.Proofs.YtjpkdegjcilndaaGreatDoor

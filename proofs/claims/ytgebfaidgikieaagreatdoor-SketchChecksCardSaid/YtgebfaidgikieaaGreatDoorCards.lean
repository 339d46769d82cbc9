/-
  DERIVED. GIVEN WITH THE SEED: THE CARDS: each row of YtgebfaidgikieaaGreatDoorRows.lean that lists a variable, with what it lists TIED to the program's text (the seventh form; the later family's looks); each row that meets fmt, with fmt's text TOLD by the authors' own Lean function (tested against real Go, not proved from fmt's source: count such statements apart). THE CARD IS WHAT COUNTS. Prove the row's statement (the work); the ties are given (YtgebfaidgikieaaGreatDoorTie.lean); close each card by the builder's one call (the guide's Derived/Test/ToyasCard.lean, 'card_holds'). Laid BY PROGRAM, IN A SANDBOX (cutbox-door.mjs). By AI agents, Wed Nov 11 2026. No macro, syntax, notation, axiom, sorry.
-/
import Derived.Test.YtgebfaidgikieaaGreatDoorRows
import GoSem.ClaimSeven
namespace Go.Proofs.YtgebfaidgikieaaGreatDoor
namespace Rows

/-- THE TIED CARD OF 'synthesislaw34.SketchChecks'. -/
def sketchChecksCard : Claim7 := { stood := { row := sketchChecksRow, standIns := [], harness := (true, "bcf48be0292dc659704c88be194b91fd8cc36b632724793ecce1d57522a35c39"), looks := true }, kinds := [], alts := [], laidByText := true, laidKinds := [.data, .data, .data, .data, .pinned], laidTests := true, laidLooks := .later }
def SketchChecksCardSaid : Prop := Claim7.holds Tryz.pinned (.plain (OpenSpec.ofChange sketchChecksSpec)) sketchChecksCard

/-- THE SECOND FORM's CARD OF 'synthesislaw34.SketchChecks'. -/
def sketchChecksUptoCard : Claim7 := { stood := { row := sketchChecksUptoRow, standIns := [], harness := (true, "bcf48be0292dc659704c88be194b91fd8cc36b632724793ecce1d57522a35c39"), looks := true }, kinds := [], alts := [], laidByText := true, laidKinds := [.data, .data, .data, .data, .pinned], laidTests := true, laidLooks := .later }
def SketchChecksUptoCardSaid : Prop := Claim7.holds Tryz.pinned (.plain (OpenSpec.upto sketchChecksSpec)) sketchChecksUptoCard
end Rows
end Go.Proofs.YtgebfaidgikieaaGreatDoor

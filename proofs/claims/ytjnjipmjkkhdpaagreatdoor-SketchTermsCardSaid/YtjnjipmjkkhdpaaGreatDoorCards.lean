/-
  DERIVED. GIVEN WITH THE SEED: THE CARDS: each row of YtjnjipmjkkhdpaaGreatDoorRows.lean that lists a variable, with what it lists TIED to the program's text (the seventh form; the later family's looks); each row that meets fmt, with fmt's text TOLD by the authors' own Lean function (tested against real Go, not proved from fmt's source: count such statements apart). THE CARD IS WHAT COUNTS. Prove the row's statement (the work); the ties are given (YtjnjipmjkkhdpaaGreatDoorTie.lean); close each card by the builder's one call (the guide's Derived/Test/ToyasCard.lean, 'card_holds'). Laid BY PROGRAM, IN A SANDBOX (cutbox-door.mjs). By AI agents, Wed Nov 11 2026. No macro, syntax, notation, axiom, sorry.
-/
import Derived.Test.YtjnjipmjkkhdpaaGreatDoorRows
import GoSem.ClaimSeven
namespace Go.Proofs.YtjnjipmjkkhdpaaGreatDoor
namespace Rows

/-- THE TIED CARD OF 'synthesislaw34.SketchTerms'. -/
def sketchTermsCard : Claim7 := { stood := { row := sketchTermsRow, standIns := [], harness := (true, "89dc0324867321e6b3e1fbc08a498afdec739b1c440c52671bdf1cb92cfd5554"), looks := true }, kinds := [], alts := [], laidByText := true, laidKinds := [.data, .data, .data, .data, .pinned], laidTests := true, laidLooks := .later }
def SketchTermsCardSaid : Prop := Claim7.holds Tryz.pinned (.plain (OpenSpec.ofChange sketchTermsSpec)) sketchTermsCard

/-- THE SECOND FORM's CARD OF 'synthesislaw34.SketchTerms'. -/
def sketchTermsUptoCard : Claim7 := { stood := { row := sketchTermsUptoRow, standIns := [], harness := (true, "89dc0324867321e6b3e1fbc08a498afdec739b1c440c52671bdf1cb92cfd5554"), looks := true }, kinds := [], alts := [], laidByText := true, laidKinds := [.data, .data, .data, .data, .pinned], laidTests := true, laidLooks := .later }
def SketchTermsUptoCardSaid : Prop := Claim7.holds Tryz.pinned (.plain (OpenSpec.upto sketchTermsSpec)) sketchTermsUptoCard
end Rows
end Go.Proofs.YtjnjipmjkkhdpaaGreatDoor

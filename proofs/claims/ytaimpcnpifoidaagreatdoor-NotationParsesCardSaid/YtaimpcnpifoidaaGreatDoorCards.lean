/-
  DERIVED. GIVEN WITH THE SEED: THE CARDS: each row of YtaimpcnpifoidaaGreatDoorRows.lean that lists a variable, with what it lists TIED to the program's text (the seventh form; the later family's looks); each row that meets fmt, with fmt's text TOLD by the authors' own Lean function (tested against real Go, not proved from fmt's source: count such statements apart). THE CARD IS WHAT COUNTS. Prove the row's statement (the work); the ties are given (YtaimpcnpifoidaaGreatDoorTie.lean); close each card by the builder's one call (the guide's Derived/Test/ToyasCard.lean, 'card_holds'). Laid BY PROGRAM, IN A SANDBOX (cutbox-door.mjs). By AI agents, Wed Nov 11 2026. No macro, syntax, notation, axiom, sorry.
-/
import Derived.Test.YtaimpcnpifoidaaGreatDoorRows
import GoSem.ClaimSeven
namespace Go.Proofs.YtaimpcnpifoidaaGreatDoor
namespace Rows

/-- THE TIED CARD OF 'synthesislaw14.NotationPrints'. -/
def notationPrintsCard : Claim7 := { stood := { row := notationPrintsRow, standIns := [], harness := (true, "aad9bf91ff3f5c2232ad5298ebe3199df4dc9cce42722f6e274e8872ef87a7c0"), looks := true }, kinds := [], alts := [], laidByText := true, laidKinds := [.data, .data, .data, .data, .pinned], laidTests := true, laidLooks := .later }
def NotationPrintsCardSaid : Prop := Claim7.holds Tryz.pinned (.plain (OpenSpec.ofChange notationPrintsSpec)) notationPrintsCard

/-- THE TIED CARD OF 'synthesislaw14.NotationParses'. -/
def notationParsesCard : Claim7 := { stood := { row := notationParsesRow, standIns := [], harness := (true, "aad9bf91ff3f5c2232ad5298ebe3199df4dc9cce42722f6e274e8872ef87a7c0"), looks := true }, kinds := [], alts := [], laidByText := true, laidKinds := [.data, .data, .data, .data, .pinned], laidTests := true, laidLooks := .later }
def NotationParsesCardSaid : Prop := Claim7.holds Tryz.pinned (.plain (OpenSpec.ofChange notationParsesSpec)) notationParsesCard

/-- THE TIED CARD OF 'synthesislaw14.NotationBack'. -/
def notationBackCard : Claim7 := { stood := { row := notationBackRow, standIns := [], harness := (true, "aad9bf91ff3f5c2232ad5298ebe3199df4dc9cce42722f6e274e8872ef87a7c0"), looks := true }, kinds := [], alts := [], laidByText := true, laidKinds := [.data, .data, .data, .data, .pinned], laidTests := true, laidLooks := .later }
def NotationBackCardSaid : Prop := Claim7.holds Tryz.pinned (.plain (OpenSpec.ofChange notationBackSpec)) notationBackCard

/-- THE TIED CARD OF 'synthesislaw14.NotationLanguages'. -/
def notationLanguagesCard : Claim7 := { stood := { row := notationLanguagesRow, standIns := [], harness := (true, "aad9bf91ff3f5c2232ad5298ebe3199df4dc9cce42722f6e274e8872ef87a7c0"), looks := true }, kinds := [], alts := [], laidByText := true, laidKinds := [.data, .data, .data, .data, .pinned], laidTests := true, laidLooks := .later }
def NotationLanguagesCardSaid : Prop := Claim7.holds Tryz.pinned (.plain (OpenSpec.ofChange notationLanguagesSpec)) notationLanguagesCard

/-- THE TIED CARD OF 'synthesislaw14.NotationTexts'. -/
def notationTextsCard : Claim7 := { stood := { row := notationTextsRow, standIns := [], harness := (true, "aad9bf91ff3f5c2232ad5298ebe3199df4dc9cce42722f6e274e8872ef87a7c0"), looks := true }, kinds := [], alts := [], laidByText := true, laidKinds := [.data, .data, .data, .data, .pinned], laidTests := true, laidLooks := .later }
def NotationTextsCardSaid : Prop := Claim7.holds Tryz.pinned (.plain (OpenSpec.ofChange notationTextsSpec)) notationTextsCard

/-- THE TIED CARD OF 'synthesislaw14.NotationLines'. -/
def notationLinesCard : Claim7 := { stood := { row := notationLinesRow, standIns := [], harness := (true, "aad9bf91ff3f5c2232ad5298ebe3199df4dc9cce42722f6e274e8872ef87a7c0"), looks := true }, kinds := [], alts := [], laidByText := true, laidKinds := [.data, .data, .data, .data, .pinned], laidTests := true, laidLooks := .later }
def NotationLinesCardSaid : Prop := Claim7.holds Tryz.pinned (.plain (OpenSpec.ofChange notationLinesSpec)) notationLinesCard

/-- THE SECOND FORM's CARD OF 'synthesislaw14.NotationPrints'. -/
def notationPrintsUptoCard : Claim7 := { stood := { row := notationPrintsUptoRow, standIns := [], harness := (true, "aad9bf91ff3f5c2232ad5298ebe3199df4dc9cce42722f6e274e8872ef87a7c0"), looks := true }, kinds := [], alts := [], laidByText := true, laidKinds := [.data, .data, .data, .data, .pinned], laidTests := true, laidLooks := .later }
def NotationPrintsUptoCardSaid : Prop := Claim7.holds Tryz.pinned (.plain (OpenSpec.upto notationPrintsSpec)) notationPrintsUptoCard

/-- THE SECOND FORM's CARD OF 'synthesislaw14.NotationParses'. -/
def notationParsesUptoCard : Claim7 := { stood := { row := notationParsesUptoRow, standIns := [], harness := (true, "aad9bf91ff3f5c2232ad5298ebe3199df4dc9cce42722f6e274e8872ef87a7c0"), looks := true }, kinds := [], alts := [], laidByText := true, laidKinds := [.data, .data, .data, .data, .pinned], laidTests := true, laidLooks := .later }
def NotationParsesUptoCardSaid : Prop := Claim7.holds Tryz.pinned (.plain (OpenSpec.upto notationParsesSpec)) notationParsesUptoCard

/-- THE SECOND FORM's CARD OF 'synthesislaw14.NotationBack'. -/
def notationBackUptoCard : Claim7 := { stood := { row := notationBackUptoRow, standIns := [], harness := (true, "aad9bf91ff3f5c2232ad5298ebe3199df4dc9cce42722f6e274e8872ef87a7c0"), looks := true }, kinds := [], alts := [], laidByText := true, laidKinds := [.data, .data, .data, .data, .pinned], laidTests := true, laidLooks := .later }
def NotationBackUptoCardSaid : Prop := Claim7.holds Tryz.pinned (.plain (OpenSpec.upto notationBackSpec)) notationBackUptoCard

/-- THE SECOND FORM's CARD OF 'synthesislaw14.NotationLanguages'. -/
def notationLanguagesUptoCard : Claim7 := { stood := { row := notationLanguagesUptoRow, standIns := [], harness := (true, "aad9bf91ff3f5c2232ad5298ebe3199df4dc9cce42722f6e274e8872ef87a7c0"), looks := true }, kinds := [], alts := [], laidByText := true, laidKinds := [.data, .data, .data, .data, .pinned], laidTests := true, laidLooks := .later }
def NotationLanguagesUptoCardSaid : Prop := Claim7.holds Tryz.pinned (.plain (OpenSpec.upto notationLanguagesSpec)) notationLanguagesUptoCard

/-- THE SECOND FORM's CARD OF 'synthesislaw14.NotationTexts'. -/
def notationTextsUptoCard : Claim7 := { stood := { row := notationTextsUptoRow, standIns := [], harness := (true, "aad9bf91ff3f5c2232ad5298ebe3199df4dc9cce42722f6e274e8872ef87a7c0"), looks := true }, kinds := [], alts := [], laidByText := true, laidKinds := [.data, .data, .data, .data, .pinned], laidTests := true, laidLooks := .later }
def NotationTextsUptoCardSaid : Prop := Claim7.holds Tryz.pinned (.plain (OpenSpec.upto notationTextsSpec)) notationTextsUptoCard

/-- THE SECOND FORM's CARD OF 'synthesislaw14.NotationLines'. -/
def notationLinesUptoCard : Claim7 := { stood := { row := notationLinesUptoRow, standIns := [], harness := (true, "aad9bf91ff3f5c2232ad5298ebe3199df4dc9cce42722f6e274e8872ef87a7c0"), looks := true }, kinds := [], alts := [], laidByText := true, laidKinds := [.data, .data, .data, .data, .pinned], laidTests := true, laidLooks := .later }
def NotationLinesUptoCardSaid : Prop := Claim7.holds Tryz.pinned (.plain (OpenSpec.upto notationLinesSpec)) notationLinesUptoCard
end Rows
end Go.Proofs.YtaimpcnpifoidaaGreatDoor

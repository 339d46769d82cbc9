/-
  DERIVED. GIVEN WITH THE SEED: THE CARDS: each row of YtfhmljjkhjifeaaGreatDoorRows.lean that lists a variable, with what it lists TIED to the program's text (the seventh form; the later family's looks); each row that meets fmt, with fmt's text TOLD by the authors' own Lean function (tested against real Go, not proved from fmt's source: count such statements apart). THE CARD IS WHAT COUNTS. Prove the row's statement (the work); the ties are given (YtfhmljjkhjifeaaGreatDoorTie.lean); close each card by the builder's one call (the guide's Derived/Test/ToyasCard.lean, 'card_holds'). Laid BY PROGRAM, IN A SANDBOX (cutbox-door.mjs). By AI agents, Wed Nov 11 2026. No macro, syntax, notation, axiom, sorry.
-/
import Derived.Test.YtfhmljjkhjifeaaGreatDoorRows
import GoSem.ClaimSeven
namespace Go.Proofs.YtfhmljjkhjifeaaGreatDoor
namespace Rows

/-- THE TIED CARD OF 'synthesislaw11.GrammarChecks'. -/
def grammarChecksCard : Claim7 := { stood := { row := grammarChecksRow, standIns := [], harness := (true, "43b418d873b68172dcfc9a86a10bf184ec857a7f1202b33403d205f642371a76"), looks := false }, kinds := [], alts := [], laidByText := true, laidKinds := [.data, .data, .data, .data, .pinned], laidTests := true, laidLooks := .later }
def GrammarChecksCardSaid : Prop := Claim7.holds Tryz.pinned (.plain (OpenSpec.ofChange grammarChecksSpec)) grammarChecksCard

/-- THE TIED CARD OF 'synthesislaw11.GrammarSymbols'. -/
def grammarSymbolsCard : Claim7 := { stood := { row := grammarSymbolsRow, standIns := [], harness := (true, "43b418d873b68172dcfc9a86a10bf184ec857a7f1202b33403d205f642371a76"), looks := false }, kinds := [], alts := [], laidByText := true, laidKinds := [.data, .data, .data, .data, .pinned], laidTests := true, laidLooks := .later }
def GrammarSymbolsCardSaid : Prop := Claim7.holds Tryz.pinned (.plain (OpenSpec.ofChange grammarSymbolsSpec)) grammarSymbolsCard

/-- THE TIED CARD OF 'synthesislaw11.GrammarTrims'. -/
def grammarTrimsCard : Claim7 := { stood := { row := grammarTrimsRow, standIns := [], harness := (true, "43b418d873b68172dcfc9a86a10bf184ec857a7f1202b33403d205f642371a76"), looks := false }, kinds := [], alts := [], laidByText := true, laidKinds := [.data, .data, .data, .data, .pinned], laidTests := true, laidLooks := .later }
def GrammarTrimsCardSaid : Prop := Claim7.holds Tryz.pinned (.plain (OpenSpec.ofChange grammarTrimsSpec)) grammarTrimsCard

/-- THE TIED CARD OF 'synthesislaw11.GrammarSame'. -/
def grammarSameCard : Claim7 := { stood := { row := grammarSameRow, standIns := [], harness := (true, "43b418d873b68172dcfc9a86a10bf184ec857a7f1202b33403d205f642371a76"), looks := false }, kinds := [], alts := [], laidByText := true, laidKinds := [.data, .data, .data, .data, .pinned], laidTests := true, laidLooks := .later }
def GrammarSameCardSaid : Prop := Claim7.holds Tryz.pinned (.plain (OpenSpec.ofChange grammarSameSpec)) grammarSameCard

/-- THE TIED CARD OF 'synthesislaw11.GrammarPrints'. -/
def grammarPrintsCard : Claim7 := { stood := { row := grammarPrintsRow, standIns := [], harness := (true, "43b418d873b68172dcfc9a86a10bf184ec857a7f1202b33403d205f642371a76"), looks := false }, kinds := [], alts := [], laidByText := true, laidKinds := [.data, .data, .data, .data, .pinned], laidTests := true, laidLooks := .later }
def GrammarPrintsCardSaid : Prop := Claim7.holds Tryz.pinned (.plain (OpenSpec.ofChange grammarPrintsSpec)) grammarPrintsCard

/-- THE TIED CARD OF 'synthesislaw11.GrammarTrimmed'. -/
def grammarTrimmedCard : Claim7 := { stood := { row := grammarTrimmedRow, standIns := [], harness := (true, "43b418d873b68172dcfc9a86a10bf184ec857a7f1202b33403d205f642371a76"), looks := false }, kinds := [], alts := [], laidByText := true, laidKinds := [.data, .data, .data, .data, .pinned], laidTests := true, laidLooks := .later }
def GrammarTrimmedCardSaid : Prop := Claim7.holds Tryz.pinned (.plain (OpenSpec.ofChange grammarTrimmedSpec)) grammarTrimmedCard

/-- THE TIED CARD OF 'synthesislaw11.GrammarProductive'. -/
def grammarProductiveCard : Claim7 := { stood := { row := grammarProductiveRow, standIns := [], harness := (true, "43b418d873b68172dcfc9a86a10bf184ec857a7f1202b33403d205f642371a76"), looks := false }, kinds := [], alts := [], laidByText := true, laidKinds := [.data, .data, .data, .data, .pinned], laidTests := true, laidLooks := .later }
def GrammarProductiveCardSaid : Prop := Claim7.holds Tryz.pinned (.plain (OpenSpec.ofChange grammarProductiveSpec)) grammarProductiveCard

/-- THE SECOND FORM's CARD OF 'synthesislaw11.GrammarChecks'. -/
def grammarChecksUptoCard : Claim7 := { stood := { row := grammarChecksUptoRow, standIns := [], harness := (true, "43b418d873b68172dcfc9a86a10bf184ec857a7f1202b33403d205f642371a76"), looks := false }, kinds := [], alts := [], laidByText := true, laidKinds := [.data, .data, .data, .data, .pinned], laidTests := true, laidLooks := .later }
def GrammarChecksUptoCardSaid : Prop := Claim7.holds Tryz.pinned (.plain (OpenSpec.upto grammarChecksSpec)) grammarChecksUptoCard

/-- THE SECOND FORM's CARD OF 'synthesislaw11.GrammarSymbols'. -/
def grammarSymbolsUptoCard : Claim7 := { stood := { row := grammarSymbolsUptoRow, standIns := [], harness := (true, "43b418d873b68172dcfc9a86a10bf184ec857a7f1202b33403d205f642371a76"), looks := false }, kinds := [], alts := [], laidByText := true, laidKinds := [.data, .data, .data, .data, .pinned], laidTests := true, laidLooks := .later }
def GrammarSymbolsUptoCardSaid : Prop := Claim7.holds Tryz.pinned (.plain (OpenSpec.upto grammarSymbolsSpec)) grammarSymbolsUptoCard

/-- THE SECOND FORM's CARD OF 'synthesislaw11.GrammarTrims'. -/
def grammarTrimsUptoCard : Claim7 := { stood := { row := grammarTrimsUptoRow, standIns := [], harness := (true, "43b418d873b68172dcfc9a86a10bf184ec857a7f1202b33403d205f642371a76"), looks := false }, kinds := [], alts := [], laidByText := true, laidKinds := [.data, .data, .data, .data, .pinned], laidTests := true, laidLooks := .later }
def GrammarTrimsUptoCardSaid : Prop := Claim7.holds Tryz.pinned (.plain (OpenSpec.upto grammarTrimsSpec)) grammarTrimsUptoCard

/-- THE SECOND FORM's CARD OF 'synthesislaw11.GrammarSame'. -/
def grammarSameUptoCard : Claim7 := { stood := { row := grammarSameUptoRow, standIns := [], harness := (true, "43b418d873b68172dcfc9a86a10bf184ec857a7f1202b33403d205f642371a76"), looks := false }, kinds := [], alts := [], laidByText := true, laidKinds := [.data, .data, .data, .data, .pinned], laidTests := true, laidLooks := .later }
def GrammarSameUptoCardSaid : Prop := Claim7.holds Tryz.pinned (.plain (OpenSpec.upto grammarSameSpec)) grammarSameUptoCard

/-- THE SECOND FORM's CARD OF 'synthesislaw11.GrammarPrints'. -/
def grammarPrintsUptoCard : Claim7 := { stood := { row := grammarPrintsUptoRow, standIns := [], harness := (true, "43b418d873b68172dcfc9a86a10bf184ec857a7f1202b33403d205f642371a76"), looks := false }, kinds := [], alts := [], laidByText := true, laidKinds := [.data, .data, .data, .data, .pinned], laidTests := true, laidLooks := .later }
def GrammarPrintsUptoCardSaid : Prop := Claim7.holds Tryz.pinned (.plain (OpenSpec.upto grammarPrintsSpec)) grammarPrintsUptoCard

/-- THE SECOND FORM's CARD OF 'synthesislaw11.GrammarTrimmed'. -/
def grammarTrimmedUptoCard : Claim7 := { stood := { row := grammarTrimmedUptoRow, standIns := [], harness := (true, "43b418d873b68172dcfc9a86a10bf184ec857a7f1202b33403d205f642371a76"), looks := false }, kinds := [], alts := [], laidByText := true, laidKinds := [.data, .data, .data, .data, .pinned], laidTests := true, laidLooks := .later }
def GrammarTrimmedUptoCardSaid : Prop := Claim7.holds Tryz.pinned (.plain (OpenSpec.upto grammarTrimmedSpec)) grammarTrimmedUptoCard

/-- THE SECOND FORM's CARD OF 'synthesislaw11.GrammarProductive'. -/
def grammarProductiveUptoCard : Claim7 := { stood := { row := grammarProductiveUptoRow, standIns := [], harness := (true, "43b418d873b68172dcfc9a86a10bf184ec857a7f1202b33403d205f642371a76"), looks := false }, kinds := [], alts := [], laidByText := true, laidKinds := [.data, .data, .data, .data, .pinned], laidTests := true, laidLooks := .later }
def GrammarProductiveUptoCardSaid : Prop := Claim7.holds Tryz.pinned (.plain (OpenSpec.upto grammarProductiveSpec)) grammarProductiveUptoCard
end Rows
end Go.Proofs.YtfhmljjkhjifeaaGreatDoor

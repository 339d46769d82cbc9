/-
  DERIVED. GIVEN WITH THE SEED: THE CARDS: each row of YtijkipikefpopaaDoorRows.lean that lists a variable, with what it lists TIED to the program's text (the seventh form; the later family's looks); each row that meets fmt, with fmt's text TOLD by the authors' own Lean function (tested against real Go, not proved from fmt's source: count such statements apart). THE CARD IS WHAT COUNTS. Prove the row's statement (the work); the ties are given (YtijkipikefpopaaDoorTie.lean); close each card by the builder's one call (the guide's Derived/Test/ToyasCard.lean, 'card_holds'). Laid BY PROGRAM, IN A SANDBOX (cutbox-door.mjs). By AI agents, Wed Nov 11 2026. No macro, syntax, notation, axiom, sorry.
-/
import Derived.Test.YtijkipikefpopaaDoorRows
import GoSem.ClaimSeven
namespace Go.Proofs.YtijkipikefpopaaDoor
namespace Rows

/-- THE TIED CARD OF 'synthesislaw02.LiteralPrints'. -/
def literalPrintsCard : Claim7 := { stood := { row := literalPrintsRow, standIns := [], harness := (true, "dd05a1eff4f76bf64292c7e3bfe411821afa300e9e21aaca76d036bfa2676b88"), looks := false }, kinds := [], alts := [], laidByText := true, laidKinds := [.data, .data, .data, .data, .pinned], laidTests := true, laidLooks := .later }
def LiteralPrintsCardSaid : Prop := Claim7.holds Tryd.pinned (.plain (OpenSpec.ofChange literalPrintsSpec)) literalPrintsCard

/-- THE TIED CARD OF 'synthesislaw02.LiteralParses'. -/
def literalParsesCard : Claim7 := { stood := { row := literalParsesRow, standIns := [], harness := (true, "dd05a1eff4f76bf64292c7e3bfe411821afa300e9e21aaca76d036bfa2676b88"), looks := false }, kinds := [], alts := [], laidByText := true, laidKinds := [.data, .data, .data, .data, .pinned], laidTests := true, laidLooks := .later }
def LiteralParsesCardSaid : Prop := Claim7.holds Tryd.pinned (.plain (OpenSpec.ofChange literalParsesSpec)) literalParsesCard

/-- THE TIED CARD OF 'synthesislaw02.LiteralTuples'. -/
def literalTuplesCard : Claim7 := { stood := { row := literalTuplesRow, standIns := [], harness := (true, "dd05a1eff4f76bf64292c7e3bfe411821afa300e9e21aaca76d036bfa2676b88"), looks := false }, kinds := [], alts := [], laidByText := true, laidKinds := [.data, .data, .data, .data, .pinned], laidTests := true, laidLooks := .later }
def LiteralTuplesCardSaid : Prop := Claim7.holds Tryd.pinned (.plain (OpenSpec.ofChange literalTuplesSpec)) literalTuplesCard

/-- THE TIED CARD OF 'synthesislaw02.LiteralQuotes'. -/
def literalQuotesCard : Claim7 := { stood := { row := literalQuotesRow, standIns := [], harness := (true, "dd05a1eff4f76bf64292c7e3bfe411821afa300e9e21aaca76d036bfa2676b88"), looks := false }, kinds := [], alts := [], laidByText := true, laidKinds := [.data, .data, .data, .data, .pinned], laidTests := true, laidLooks := .later }
def LiteralQuotesCardSaid : Prop := Claim7.holds Tryd.pinned (.plain (OpenSpec.ofChange literalQuotesSpec)) literalQuotesCard

/-- THE TIED CARD OF 'synthesislaw02.LiteralBack'. -/
def literalBackCard : Claim7 := { stood := { row := literalBackRow, standIns := [], harness := (true, "dd05a1eff4f76bf64292c7e3bfe411821afa300e9e21aaca76d036bfa2676b88"), looks := false }, kinds := [], alts := [], laidByText := true, laidKinds := [.data, .data, .data, .data, .pinned], laidTests := true, laidLooks := .later }
def LiteralBackCardSaid : Prop := Claim7.holds Tryd.pinned (.plain (OpenSpec.ofChange literalBackSpec)) literalBackCard

/-- THE TIED CARD OF 'synthesislaw02.LiteralFaults'. -/
def literalFaultsCard : Claim7 := { stood := { row := literalFaultsRow, standIns := [], harness := (true, "dd05a1eff4f76bf64292c7e3bfe411821afa300e9e21aaca76d036bfa2676b88"), looks := false }, kinds := [], alts := [], laidByText := true, laidKinds := [.data, .data, .data, .data, .pinned], laidTests := true, laidLooks := .later }
def LiteralFaultsCardSaid : Prop := Claim7.holds Tryd.pinned (.plain (OpenSpec.ofChange literalFaultsSpec)) literalFaultsCard

/-- THE TIED CARD OF 'synthesislaw02.LiteralPrefixes'. -/
def literalPrefixesCard : Claim7 := { stood := { row := literalPrefixesRow, standIns := [], harness := (true, "dd05a1eff4f76bf64292c7e3bfe411821afa300e9e21aaca76d036bfa2676b88"), looks := false }, kinds := [], alts := [], laidByText := true, laidKinds := [.data, .data, .data, .data, .pinned], laidTests := true, laidLooks := .later }
def LiteralPrefixesCardSaid : Prop := Claim7.holds Tryd.pinned (.plain (OpenSpec.ofChange literalPrefixesSpec)) literalPrefixesCard

/-- THE SECOND FORM's CARD OF 'synthesislaw02.LiteralPrints'. -/
def literalPrintsUptoCard : Claim7 := { stood := { row := literalPrintsUptoRow, standIns := [], harness := (true, "dd05a1eff4f76bf64292c7e3bfe411821afa300e9e21aaca76d036bfa2676b88"), looks := false }, kinds := [], alts := [], laidByText := true, laidKinds := [.data, .data, .data, .data, .pinned], laidTests := true, laidLooks := .later }
def LiteralPrintsUptoCardSaid : Prop := Claim7.holds Tryd.pinned (.plain (OpenSpec.upto literalPrintsSpec)) literalPrintsUptoCard

/-- THE SECOND FORM's CARD OF 'synthesislaw02.LiteralParses'. -/
def literalParsesUptoCard : Claim7 := { stood := { row := literalParsesUptoRow, standIns := [], harness := (true, "dd05a1eff4f76bf64292c7e3bfe411821afa300e9e21aaca76d036bfa2676b88"), looks := false }, kinds := [], alts := [], laidByText := true, laidKinds := [.data, .data, .data, .data, .pinned], laidTests := true, laidLooks := .later }
def LiteralParsesUptoCardSaid : Prop := Claim7.holds Tryd.pinned (.plain (OpenSpec.upto literalParsesSpec)) literalParsesUptoCard

/-- THE SECOND FORM's CARD OF 'synthesislaw02.LiteralTuples'. -/
def literalTuplesUptoCard : Claim7 := { stood := { row := literalTuplesUptoRow, standIns := [], harness := (true, "dd05a1eff4f76bf64292c7e3bfe411821afa300e9e21aaca76d036bfa2676b88"), looks := false }, kinds := [], alts := [], laidByText := true, laidKinds := [.data, .data, .data, .data, .pinned], laidTests := true, laidLooks := .later }
def LiteralTuplesUptoCardSaid : Prop := Claim7.holds Tryd.pinned (.plain (OpenSpec.upto literalTuplesSpec)) literalTuplesUptoCard

/-- THE SECOND FORM's CARD OF 'synthesislaw02.LiteralQuotes'. -/
def literalQuotesUptoCard : Claim7 := { stood := { row := literalQuotesUptoRow, standIns := [], harness := (true, "dd05a1eff4f76bf64292c7e3bfe411821afa300e9e21aaca76d036bfa2676b88"), looks := false }, kinds := [], alts := [], laidByText := true, laidKinds := [.data, .data, .data, .data, .pinned], laidTests := true, laidLooks := .later }
def LiteralQuotesUptoCardSaid : Prop := Claim7.holds Tryd.pinned (.plain (OpenSpec.upto literalQuotesSpec)) literalQuotesUptoCard

/-- THE SECOND FORM's CARD OF 'synthesislaw02.LiteralBack'. -/
def literalBackUptoCard : Claim7 := { stood := { row := literalBackUptoRow, standIns := [], harness := (true, "dd05a1eff4f76bf64292c7e3bfe411821afa300e9e21aaca76d036bfa2676b88"), looks := false }, kinds := [], alts := [], laidByText := true, laidKinds := [.data, .data, .data, .data, .pinned], laidTests := true, laidLooks := .later }
def LiteralBackUptoCardSaid : Prop := Claim7.holds Tryd.pinned (.plain (OpenSpec.upto literalBackSpec)) literalBackUptoCard

/-- THE SECOND FORM's CARD OF 'synthesislaw02.LiteralFaults'. -/
def literalFaultsUptoCard : Claim7 := { stood := { row := literalFaultsUptoRow, standIns := [], harness := (true, "dd05a1eff4f76bf64292c7e3bfe411821afa300e9e21aaca76d036bfa2676b88"), looks := false }, kinds := [], alts := [], laidByText := true, laidKinds := [.data, .data, .data, .data, .pinned], laidTests := true, laidLooks := .later }
def LiteralFaultsUptoCardSaid : Prop := Claim7.holds Tryd.pinned (.plain (OpenSpec.upto literalFaultsSpec)) literalFaultsUptoCard

/-- THE SECOND FORM's CARD OF 'synthesislaw02.LiteralPrefixes'. -/
def literalPrefixesUptoCard : Claim7 := { stood := { row := literalPrefixesUptoRow, standIns := [], harness := (true, "dd05a1eff4f76bf64292c7e3bfe411821afa300e9e21aaca76d036bfa2676b88"), looks := false }, kinds := [], alts := [], laidByText := true, laidKinds := [.data, .data, .data, .data, .pinned], laidTests := true, laidLooks := .later }
def LiteralPrefixesUptoCardSaid : Prop := Claim7.holds Tryd.pinned (.plain (OpenSpec.upto literalPrefixesSpec)) literalPrefixesUptoCard
end Rows
end Go.Proofs.YtijkipikefpopaaDoor

/-
  DERIVED. GIVEN WITH THE SEED: THE CARDS: each row of YtpnnpkmjohkgiaaGreatDoorRows.lean that lists a variable, with what it lists TIED to the program's text (the seventh form; the later family's looks); each row that meets fmt, with fmt's text TOLD by the authors' own Lean function (tested against real Go, not proved from fmt's source: count such statements apart). THE CARD IS WHAT COUNTS. Prove the row's statement (the work); the ties are given (YtpnnpkmjohkgiaaGreatDoorTie.lean); close each card by the builder's one call (the guide's Derived/Test/ToyasCard.lean, 'card_holds'). Laid BY PROGRAM, IN A SANDBOX (cutbox-door.mjs). By AI agents, Wed Nov 11 2026. No macro, syntax, notation, axiom, sorry.
-/
import Derived.Test.YtpnnpkmjohkgiaaGreatDoorRows
import GoSem.ClaimSeven
namespace Go.Proofs.YtpnnpkmjohkgiaaGreatDoor
namespace Rows

/-- THE TIED CARD OF 'synthesislaw25.SpaceChecks'. -/
def spaceChecksCard : Claim7 := { stood := { row := spaceChecksRow, standIns := [], harness := (true, "9b112f8c1b49446c8055dc5e2bf22bf3d1b52285d4be3f11a6733062987cedf8"), looks := true }, kinds := [], alts := [], laidByText := true, laidKinds := [.data, .data, .data], laidTests := true, laidLooks := .later }
def SpaceChecksCardSaid : Prop := Claim7.holds Tryz.pinned (.plain (OpenSpec.ofChange spaceChecksSpec)) spaceChecksCard

/-- THE TIED CARD OF 'synthesislaw25.SpaceContains'. -/
def spaceContainsCard : Claim7 := { stood := { row := spaceContainsRow, standIns := [], harness := (true, "9b112f8c1b49446c8055dc5e2bf22bf3d1b52285d4be3f11a6733062987cedf8"), looks := true }, kinds := [], alts := [], laidByText := true, laidKinds := [.data, .data, .data], laidTests := true, laidLooks := .later }
def SpaceContainsCardSaid : Prop := Claim7.holds Tryz.pinned (.plain (OpenSpec.ofChange spaceContainsSpec)) spaceContainsCard

/-- THE TIED CARD OF 'synthesislaw25.SpaceTrims'. -/
def spaceTrimsCard : Claim7 := { stood := { row := spaceTrimsRow, standIns := [], harness := (true, "9b112f8c1b49446c8055dc5e2bf22bf3d1b52285d4be3f11a6733062987cedf8"), looks := true }, kinds := [], alts := [], laidByText := true, laidKinds := [.data, .data, .data], laidTests := true, laidLooks := .later }
def SpaceTrimsCardSaid : Prop := Claim7.holds Tryz.pinned (.plain (OpenSpec.ofChange spaceTrimsSpec)) spaceTrimsCard

/-- THE TIED CARD OF 'synthesislaw25.SpaceTerms'. -/
def spaceTermsCard : Claim7 := { stood := { row := spaceTermsRow, standIns := [], harness := (true, "9b112f8c1b49446c8055dc5e2bf22bf3d1b52285d4be3f11a6733062987cedf8"), looks := true }, kinds := [], alts := [], laidByText := true, laidKinds := [.data, .data, .data], laidTests := true, laidLooks := .later }
def SpaceTermsCardSaid : Prop := Claim7.holds Tryz.pinned (.plain (OpenSpec.ofChange spaceTermsSpec)) spaceTermsCard

/-- THE TIED CARD OF 'synthesislaw25.SpaceOf'. -/
def spaceOfCard : Claim7 := { stood := { row := spaceOfRow, standIns := [], harness := (true, "9b112f8c1b49446c8055dc5e2bf22bf3d1b52285d4be3f11a6733062987cedf8"), looks := true }, kinds := [], alts := [], laidByText := true, laidKinds := [.data, .data, .data], laidTests := true, laidLooks := .later }
def SpaceOfCardSaid : Prop := Claim7.holds Tryz.pinned (.plain (OpenSpec.ofChange spaceOfSpec)) spaceOfCard

/-- THE TIED CARD OF 'synthesislaw25.SpaceAll'. -/
def spaceAllCard : Claim7 := { stood := { row := spaceAllRow, standIns := [], harness := (true, "9b112f8c1b49446c8055dc5e2bf22bf3d1b52285d4be3f11a6733062987cedf8"), looks := true }, kinds := [], alts := [], laidByText := true, laidKinds := [.data, .data, .data], laidTests := true, laidLooks := .later }
def SpaceAllCardSaid : Prop := Claim7.holds Tryz.pinned (.plain (OpenSpec.ofChange spaceAllSpec)) spaceAllCard

/-- THE TIED CARD OF 'synthesislaw25.SpaceMany'. -/
def spaceManyCard : Claim7 := { stood := { row := spaceManyRow, standIns := [], harness := (true, "9b112f8c1b49446c8055dc5e2bf22bf3d1b52285d4be3f11a6733062987cedf8"), looks := true }, kinds := [], alts := [], laidByText := true, laidKinds := [.data, .data, .data], laidTests := true, laidLooks := .later }
def SpaceManyCardSaid : Prop := Claim7.holds Tryz.pinned (.plain (OpenSpec.ofChange spaceManySpec)) spaceManyCard

/-- THE SECOND FORM's CARD OF 'synthesislaw25.SpaceChecks'. -/
def spaceChecksUptoCard : Claim7 := { stood := { row := spaceChecksUptoRow, standIns := [], harness := (true, "9b112f8c1b49446c8055dc5e2bf22bf3d1b52285d4be3f11a6733062987cedf8"), looks := true }, kinds := [], alts := [], laidByText := true, laidKinds := [.data, .data, .data], laidTests := true, laidLooks := .later }
def SpaceChecksUptoCardSaid : Prop := Claim7.holds Tryz.pinned (.plain (OpenSpec.upto spaceChecksSpec)) spaceChecksUptoCard

/-- THE SECOND FORM's CARD OF 'synthesislaw25.SpaceContains'. -/
def spaceContainsUptoCard : Claim7 := { stood := { row := spaceContainsUptoRow, standIns := [], harness := (true, "9b112f8c1b49446c8055dc5e2bf22bf3d1b52285d4be3f11a6733062987cedf8"), looks := true }, kinds := [], alts := [], laidByText := true, laidKinds := [.data, .data, .data], laidTests := true, laidLooks := .later }
def SpaceContainsUptoCardSaid : Prop := Claim7.holds Tryz.pinned (.plain (OpenSpec.upto spaceContainsSpec)) spaceContainsUptoCard

/-- THE SECOND FORM's CARD OF 'synthesislaw25.SpaceTrims'. -/
def spaceTrimsUptoCard : Claim7 := { stood := { row := spaceTrimsUptoRow, standIns := [], harness := (true, "9b112f8c1b49446c8055dc5e2bf22bf3d1b52285d4be3f11a6733062987cedf8"), looks := true }, kinds := [], alts := [], laidByText := true, laidKinds := [.data, .data, .data], laidTests := true, laidLooks := .later }
def SpaceTrimsUptoCardSaid : Prop := Claim7.holds Tryz.pinned (.plain (OpenSpec.upto spaceTrimsSpec)) spaceTrimsUptoCard

/-- THE SECOND FORM's CARD OF 'synthesislaw25.SpaceTerms'. -/
def spaceTermsUptoCard : Claim7 := { stood := { row := spaceTermsUptoRow, standIns := [], harness := (true, "9b112f8c1b49446c8055dc5e2bf22bf3d1b52285d4be3f11a6733062987cedf8"), looks := true }, kinds := [], alts := [], laidByText := true, laidKinds := [.data, .data, .data], laidTests := true, laidLooks := .later }
def SpaceTermsUptoCardSaid : Prop := Claim7.holds Tryz.pinned (.plain (OpenSpec.upto spaceTermsSpec)) spaceTermsUptoCard

/-- THE SECOND FORM's CARD OF 'synthesislaw25.SpaceOf'. -/
def spaceOfUptoCard : Claim7 := { stood := { row := spaceOfUptoRow, standIns := [], harness := (true, "9b112f8c1b49446c8055dc5e2bf22bf3d1b52285d4be3f11a6733062987cedf8"), looks := true }, kinds := [], alts := [], laidByText := true, laidKinds := [.data, .data, .data], laidTests := true, laidLooks := .later }
def SpaceOfUptoCardSaid : Prop := Claim7.holds Tryz.pinned (.plain (OpenSpec.upto spaceOfSpec)) spaceOfUptoCard

/-- THE SECOND FORM's CARD OF 'synthesislaw25.SpaceAll'. -/
def spaceAllUptoCard : Claim7 := { stood := { row := spaceAllUptoRow, standIns := [], harness := (true, "9b112f8c1b49446c8055dc5e2bf22bf3d1b52285d4be3f11a6733062987cedf8"), looks := true }, kinds := [], alts := [], laidByText := true, laidKinds := [.data, .data, .data], laidTests := true, laidLooks := .later }
def SpaceAllUptoCardSaid : Prop := Claim7.holds Tryz.pinned (.plain (OpenSpec.upto spaceAllSpec)) spaceAllUptoCard

/-- THE SECOND FORM's CARD OF 'synthesislaw25.SpaceMany'. -/
def spaceManyUptoCard : Claim7 := { stood := { row := spaceManyUptoRow, standIns := [], harness := (true, "9b112f8c1b49446c8055dc5e2bf22bf3d1b52285d4be3f11a6733062987cedf8"), looks := true }, kinds := [], alts := [], laidByText := true, laidKinds := [.data, .data, .data], laidTests := true, laidLooks := .later }
def SpaceManyUptoCardSaid : Prop := Claim7.holds Tryz.pinned (.plain (OpenSpec.upto spaceManySpec)) spaceManyUptoCard
end Rows
end Go.Proofs.YtpnnpkmjohkgiaaGreatDoor

/-
  DERIVED. GIVEN WITH THE SEED: THE CARDS: each row of YthjbodpeckebiaaGreatDoorRows.lean that lists a variable, with what it lists TIED to the program's text (the seventh form; the later family's looks); each row that meets fmt, with fmt's text TOLD by the authors' own Lean function (tested against real Go, not proved from fmt's source: count such statements apart). THE CARD IS WHAT COUNTS. Prove the row's statement (the work); the ties are given (YthjbodpeckebiaaGreatDoorTie.lean); close each card by the builder's one call (the guide's Derived/Test/ToyasCard.lean, 'card_holds'). Laid BY PROGRAM, IN A SANDBOX (cutbox-door.mjs). By AI agents, Wed Nov 11 2026. No macro, syntax, notation, axiom, sorry.
-/
import Derived.Test.YthjbodpeckebiaaGreatDoorRows
import GoSem.ClaimSeven
namespace Go.Proofs.YthjbodpeckebiaaGreatDoor
namespace Rows

/-- THE TIED CARD OF 'abutmentlaw27.MessageRequests'. -/
def messageRequestsCard : Claim7 := { stood := { row := messageRequestsRow, standIns := [], harness := (true, "d3eaee7974a75de0a3a321cb2dfaf066f85d00658b29c690276df170a8b3f4e7"), looks := true }, kinds := [], alts := [], laidByText := true, laidKinds := [.data, .pinned], laidTests := true, laidLooks := .later }
def MessageRequestsCardSaid : Prop := Claim7.holds Tryz.pinned (.plain (OpenSpec.ofChange messageRequestsSpec)) messageRequestsCard

/-- THE TIED CARD OF 'abutmentlaw27.MessageResponses'. -/
def messageResponsesCard : Claim7 := { stood := { row := messageResponsesRow, standIns := [], harness := (true, "d3eaee7974a75de0a3a321cb2dfaf066f85d00658b29c690276df170a8b3f4e7"), looks := true }, kinds := [], alts := [], laidByText := true, laidKinds := [.data, .pinned], laidTests := true, laidLooks := .later }
def MessageResponsesCardSaid : Prop := Claim7.holds Tryz.pinned (.plain (OpenSpec.ofChange messageResponsesSpec)) messageResponsesCard

/-- THE TIED CARD OF 'abutmentlaw28.ReaderAsks'. -/
def readerAsksCard : Claim7 := { stood := { row := readerAsksRow, standIns := [], harness := (true, "d3eaee7974a75de0a3a321cb2dfaf066f85d00658b29c690276df170a8b3f4e7"), looks := true }, kinds := [], alts := [], laidByText := true, laidKinds := [.data, .pinned], laidTests := true, laidLooks := .later }
def ReaderAsksCardSaid : Prop := Claim7.holds Tryz.pinned (.plain (OpenSpec.ofChange readerAsksSpec)) readerAsksCard

/-- THE TIED CARD OF 'abutmentlaw28.ReaderAnswers'. -/
def readerAnswersCard : Claim7 := { stood := { row := readerAnswersRow, standIns := [], harness := (true, "d3eaee7974a75de0a3a321cb2dfaf066f85d00658b29c690276df170a8b3f4e7"), looks := true }, kinds := [], alts := [], laidByText := true, laidKinds := [.data, .pinned], laidTests := true, laidLooks := .later }
def ReaderAnswersCardSaid : Prop := Claim7.holds Tryz.pinned (.plain (OpenSpec.ofChange readerAnswersSpec)) readerAnswersCard

/-- THE TIED CARD OF 'abutmentlaw28.ReaderNone'. -/
def readerNoneCard : Claim7 := { stood := { row := readerNoneRow, standIns := [], harness := (true, "d3eaee7974a75de0a3a321cb2dfaf066f85d00658b29c690276df170a8b3f4e7"), looks := true }, kinds := [], alts := [], laidByText := true, laidKinds := [.data, .pinned], laidTests := true, laidLooks := .later }
def ReaderNoneCardSaid : Prop := Claim7.holds Tryz.pinned (.plain (OpenSpec.ofChange readerNoneSpec)) readerNoneCard

/-- THE SECOND FORM's CARD OF 'abutmentlaw27.MessageRequests'. -/
def messageRequestsUptoCard : Claim7 := { stood := { row := messageRequestsUptoRow, standIns := [], harness := (true, "d3eaee7974a75de0a3a321cb2dfaf066f85d00658b29c690276df170a8b3f4e7"), looks := true }, kinds := [], alts := [], laidByText := true, laidKinds := [.data, .pinned], laidTests := true, laidLooks := .later }
def MessageRequestsUptoCardSaid : Prop := Claim7.holds Tryz.pinned (.plain (OpenSpec.upto messageRequestsSpec)) messageRequestsUptoCard

/-- THE SECOND FORM's CARD OF 'abutmentlaw27.MessageResponses'. -/
def messageResponsesUptoCard : Claim7 := { stood := { row := messageResponsesUptoRow, standIns := [], harness := (true, "d3eaee7974a75de0a3a321cb2dfaf066f85d00658b29c690276df170a8b3f4e7"), looks := true }, kinds := [], alts := [], laidByText := true, laidKinds := [.data, .pinned], laidTests := true, laidLooks := .later }
def MessageResponsesUptoCardSaid : Prop := Claim7.holds Tryz.pinned (.plain (OpenSpec.upto messageResponsesSpec)) messageResponsesUptoCard

/-- THE SECOND FORM's CARD OF 'abutmentlaw28.ReaderAsks'. -/
def readerAsksUptoCard : Claim7 := { stood := { row := readerAsksUptoRow, standIns := [], harness := (true, "d3eaee7974a75de0a3a321cb2dfaf066f85d00658b29c690276df170a8b3f4e7"), looks := true }, kinds := [], alts := [], laidByText := true, laidKinds := [.data, .pinned], laidTests := true, laidLooks := .later }
def ReaderAsksUptoCardSaid : Prop := Claim7.holds Tryz.pinned (.plain (OpenSpec.upto readerAsksSpec)) readerAsksUptoCard

/-- THE SECOND FORM's CARD OF 'abutmentlaw28.ReaderAnswers'. -/
def readerAnswersUptoCard : Claim7 := { stood := { row := readerAnswersUptoRow, standIns := [], harness := (true, "d3eaee7974a75de0a3a321cb2dfaf066f85d00658b29c690276df170a8b3f4e7"), looks := true }, kinds := [], alts := [], laidByText := true, laidKinds := [.data, .pinned], laidTests := true, laidLooks := .later }
def ReaderAnswersUptoCardSaid : Prop := Claim7.holds Tryz.pinned (.plain (OpenSpec.upto readerAnswersSpec)) readerAnswersUptoCard

/-- THE SECOND FORM's CARD OF 'abutmentlaw28.ReaderNone'. -/
def readerNoneUptoCard : Claim7 := { stood := { row := readerNoneUptoRow, standIns := [], harness := (true, "d3eaee7974a75de0a3a321cb2dfaf066f85d00658b29c690276df170a8b3f4e7"), looks := true }, kinds := [], alts := [], laidByText := true, laidKinds := [.data, .pinned], laidTests := true, laidLooks := .later }
def ReaderNoneUptoCardSaid : Prop := Claim7.holds Tryz.pinned (.plain (OpenSpec.upto readerNoneSpec)) readerNoneUptoCard
end Rows
end Go.Proofs.YthjbodpeckebiaaGreatDoor

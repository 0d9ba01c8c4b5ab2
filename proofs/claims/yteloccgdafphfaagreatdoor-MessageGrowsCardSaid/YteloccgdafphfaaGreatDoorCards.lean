/-
  DERIVED. GIVEN WITH THE SEED: THE CARDS: each row of YteloccgdafphfaaGreatDoorRows.lean that lists a variable, with what it lists TIED to the program's text (the seventh form; the later family's looks); each row that meets fmt, with fmt's text TOLD by the authors' own Lean function (tested against real Go, not proved from fmt's source: count such statements apart). THE CARD IS WHAT COUNTS. Prove the row's statement (the work); the ties are given (YteloccgdafphfaaGreatDoorTie.lean); close each card by the builder's one call (the guide's Derived/Test/ToyasCard.lean, 'card_holds'). Laid BY PROGRAM, IN A SANDBOX (cutbox-door.mjs). By AI agents, Wed Nov 11 2026. No macro, syntax, notation, axiom, sorry.
-/
import Derived.Test.YteloccgdafphfaaGreatDoorRows
import GoSem.ClaimSeven
namespace Go.Proofs.YteloccgdafphfaaGreatDoor
namespace Rows

/-- THE TIED CARD OF 'abutmentlaw27.MessageRequests'. -/
def messageRequestsCard : Claim7 := { stood := { row := messageRequestsRow, standIns := [], harness := (true, "4f907b04fa96a831d9a381877feaa392dbc3b584d921761f9616502fbf9e856b"), looks := true }, kinds := [], alts := [], laidByText := true, laidKinds := [.data, .pinned], laidTests := true, laidLooks := .later }
def MessageRequestsCardSaid : Prop := Claim7.holds Tryz.pinned (.plain (OpenSpec.ofChange messageRequestsSpec)) messageRequestsCard

/-- THE TIED CARD OF 'abutmentlaw27.MessageResponses'. -/
def messageResponsesCard : Claim7 := { stood := { row := messageResponsesRow, standIns := [], harness := (true, "4f907b04fa96a831d9a381877feaa392dbc3b584d921761f9616502fbf9e856b"), looks := true }, kinds := [], alts := [], laidByText := true, laidKinds := [.data, .pinned], laidTests := true, laidLooks := .later }
def MessageResponsesCardSaid : Prop := Claim7.holds Tryz.pinned (.plain (OpenSpec.ofChange messageResponsesSpec)) messageResponsesCard

/-- THE TIED CARD OF 'abutmentlaw27.MessageGrows'. -/
def messageGrowsCard : Claim7 := { stood := { row := messageGrowsRow, standIns := [], harness := (true, "4f907b04fa96a831d9a381877feaa392dbc3b584d921761f9616502fbf9e856b"), looks := true }, kinds := [], alts := [], laidByText := true, laidKinds := [.data, .pinned], laidTests := true, laidLooks := .later }
def MessageGrowsCardSaid : Prop := Claim7.holds Tryz.pinned (.plain (OpenSpec.ofChange messageGrowsSpec)) messageGrowsCard

/-- THE TIED CARD OF 'abutmentlaw28.ReaderAsks'. -/
def readerAsksCard : Claim7 := { stood := { row := readerAsksRow, standIns := [], harness := (true, "4f907b04fa96a831d9a381877feaa392dbc3b584d921761f9616502fbf9e856b"), looks := true }, kinds := [], alts := [], laidByText := true, laidKinds := [.data, .pinned], laidTests := true, laidLooks := .later }
def ReaderAsksCardSaid : Prop := Claim7.holds Tryz.pinned (.plain (OpenSpec.ofChange readerAsksSpec)) readerAsksCard

/-- THE TIED CARD OF 'abutmentlaw28.ReaderAnswers'. -/
def readerAnswersCard : Claim7 := { stood := { row := readerAnswersRow, standIns := [], harness := (true, "4f907b04fa96a831d9a381877feaa392dbc3b584d921761f9616502fbf9e856b"), looks := true }, kinds := [], alts := [], laidByText := true, laidKinds := [.data, .pinned], laidTests := true, laidLooks := .later }
def ReaderAnswersCardSaid : Prop := Claim7.holds Tryz.pinned (.plain (OpenSpec.ofChange readerAnswersSpec)) readerAnswersCard

/-- THE TIED CARD OF 'abutmentlaw28.ReaderNone'. -/
def readerNoneCard : Claim7 := { stood := { row := readerNoneRow, standIns := [], harness := (true, "4f907b04fa96a831d9a381877feaa392dbc3b584d921761f9616502fbf9e856b"), looks := true }, kinds := [], alts := [], laidByText := true, laidKinds := [.data, .pinned], laidTests := true, laidLooks := .later }
def ReaderNoneCardSaid : Prop := Claim7.holds Tryz.pinned (.plain (OpenSpec.ofChange readerNoneSpec)) readerNoneCard

/-- THE SECOND FORM's CARD OF 'abutmentlaw27.MessageRequests'. -/
def messageRequestsUptoCard : Claim7 := { stood := { row := messageRequestsUptoRow, standIns := [], harness := (true, "4f907b04fa96a831d9a381877feaa392dbc3b584d921761f9616502fbf9e856b"), looks := true }, kinds := [], alts := [], laidByText := true, laidKinds := [.data, .pinned], laidTests := true, laidLooks := .later }
def MessageRequestsUptoCardSaid : Prop := Claim7.holds Tryz.pinned (.plain (OpenSpec.upto messageRequestsSpec)) messageRequestsUptoCard

/-- THE SECOND FORM's CARD OF 'abutmentlaw27.MessageResponses'. -/
def messageResponsesUptoCard : Claim7 := { stood := { row := messageResponsesUptoRow, standIns := [], harness := (true, "4f907b04fa96a831d9a381877feaa392dbc3b584d921761f9616502fbf9e856b"), looks := true }, kinds := [], alts := [], laidByText := true, laidKinds := [.data, .pinned], laidTests := true, laidLooks := .later }
def MessageResponsesUptoCardSaid : Prop := Claim7.holds Tryz.pinned (.plain (OpenSpec.upto messageResponsesSpec)) messageResponsesUptoCard

/-- THE SECOND FORM's CARD OF 'abutmentlaw27.MessageGrows'. -/
def messageGrowsUptoCard : Claim7 := { stood := { row := messageGrowsUptoRow, standIns := [], harness := (true, "4f907b04fa96a831d9a381877feaa392dbc3b584d921761f9616502fbf9e856b"), looks := true }, kinds := [], alts := [], laidByText := true, laidKinds := [.data, .pinned], laidTests := true, laidLooks := .later }
def MessageGrowsUptoCardSaid : Prop := Claim7.holds Tryz.pinned (.plain (OpenSpec.upto messageGrowsSpec)) messageGrowsUptoCard

/-- THE SECOND FORM's CARD OF 'abutmentlaw28.ReaderAsks'. -/
def readerAsksUptoCard : Claim7 := { stood := { row := readerAsksUptoRow, standIns := [], harness := (true, "4f907b04fa96a831d9a381877feaa392dbc3b584d921761f9616502fbf9e856b"), looks := true }, kinds := [], alts := [], laidByText := true, laidKinds := [.data, .pinned], laidTests := true, laidLooks := .later }
def ReaderAsksUptoCardSaid : Prop := Claim7.holds Tryz.pinned (.plain (OpenSpec.upto readerAsksSpec)) readerAsksUptoCard

/-- THE SECOND FORM's CARD OF 'abutmentlaw28.ReaderAnswers'. -/
def readerAnswersUptoCard : Claim7 := { stood := { row := readerAnswersUptoRow, standIns := [], harness := (true, "4f907b04fa96a831d9a381877feaa392dbc3b584d921761f9616502fbf9e856b"), looks := true }, kinds := [], alts := [], laidByText := true, laidKinds := [.data, .pinned], laidTests := true, laidLooks := .later }
def ReaderAnswersUptoCardSaid : Prop := Claim7.holds Tryz.pinned (.plain (OpenSpec.upto readerAnswersSpec)) readerAnswersUptoCard

/-- THE SECOND FORM's CARD OF 'abutmentlaw28.ReaderNone'. -/
def readerNoneUptoCard : Claim7 := { stood := { row := readerNoneUptoRow, standIns := [], harness := (true, "4f907b04fa96a831d9a381877feaa392dbc3b584d921761f9616502fbf9e856b"), looks := true }, kinds := [], alts := [], laidByText := true, laidKinds := [.data, .pinned], laidTests := true, laidLooks := .later }
def ReaderNoneUptoCardSaid : Prop := Claim7.holds Tryz.pinned (.plain (OpenSpec.upto readerNoneSpec)) readerNoneUptoCard
end Rows
end Go.Proofs.YteloccgdafphfaaGreatDoor

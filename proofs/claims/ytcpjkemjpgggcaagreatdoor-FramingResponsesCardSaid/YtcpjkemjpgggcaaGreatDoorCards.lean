/-
  DERIVED. GIVEN WITH THE SEED: THE CARDS: each row of YtcpjkemjpgggcaaGreatDoorRows.lean that lists a variable, with what it lists TIED to the program's text (the seventh form; the later family's looks); each row that meets fmt, with fmt's text TOLD by the authors' own Lean function (tested against real Go, not proved from fmt's source: count such statements apart). THE CARD IS WHAT COUNTS. Prove the row's statement (the work); the ties are given (YtcpjkemjpgggcaaGreatDoorTie.lean); close each card by the builder's one call (the guide's Derived/Test/ToyasCard.lean, 'card_holds'). Laid BY PROGRAM, IN A SANDBOX (cutbox-door.mjs). By AI agents, Wed Nov 11 2026. No macro, syntax, notation, axiom, sorry.
-/
import Derived.Test.YtcpjkemjpgggcaaGreatDoorRows
import GoSem.ClaimSeven
namespace Go.Proofs.YtcpjkemjpgggcaaGreatDoor
namespace Rows

/-- THE TIED CARD OF 'abutmentlaw23.FramingRequests'. -/
def framingRequestsCard : Claim7 := { stood := { row := framingRequestsRow, standIns := [], harness := (true, "abe2f74f51342f9ffee49e7269234b17b05ebe87c8f84aabd21a7b1eed55403d"), looks := true }, kinds := [], alts := [], laidByText := true, laidKinds := [.data, .pinned], laidTests := true, laidLooks := .later }
def FramingRequestsCardSaid : Prop := Claim7.holds Tryz.pinned (.plain (OpenSpec.ofChange framingRequestsSpec)) framingRequestsCard

/-- THE TIED CARD OF 'abutmentlaw23.FramingResponses'. -/
def framingResponsesCard : Claim7 := { stood := { row := framingResponsesRow, standIns := [], harness := (true, "abe2f74f51342f9ffee49e7269234b17b05ebe87c8f84aabd21a7b1eed55403d"), looks := true }, kinds := [], alts := [], laidByText := true, laidKinds := [.data, .pinned], laidTests := true, laidLooks := .later }
def FramingResponsesCardSaid : Prop := Claim7.holds Tryz.pinned (.plain (OpenSpec.ofChange framingResponsesSpec)) framingResponsesCard

/-- THE TIED CARD OF 'abutmentlaw25.EncodeBack'. -/
def encodeBackCard : Claim7 := { stood := { row := encodeBackRow, standIns := [], harness := (true, "abe2f74f51342f9ffee49e7269234b17b05ebe87c8f84aabd21a7b1eed55403d"), looks := true }, kinds := [], alts := [], laidByText := true, laidKinds := [.data, .pinned], laidTests := true, laidLooks := .later }
def EncodeBackCardSaid : Prop := Claim7.holds Tryz.pinned (.plain (OpenSpec.ofChange encodeBackSpec)) encodeBackCard

/-- THE TIED CARD OF 'abutmentlaw33.RefusalWhole'. -/
def refusalWholeCard : Claim7 := { stood := { row := refusalWholeRow, standIns := [], harness := (true, "abe2f74f51342f9ffee49e7269234b17b05ebe87c8f84aabd21a7b1eed55403d"), looks := true }, kinds := [], alts := [], laidByText := true, laidKinds := [.data, .pinned], laidTests := true, laidLooks := .later }
def RefusalWholeCardSaid : Prop := Claim7.holds Tryz.pinned (.plain (OpenSpec.ofChange refusalWholeSpec)) refusalWholeCard

/-- THE SECOND FORM's CARD OF 'abutmentlaw23.FramingRequests'. -/
def framingRequestsUptoCard : Claim7 := { stood := { row := framingRequestsUptoRow, standIns := [], harness := (true, "abe2f74f51342f9ffee49e7269234b17b05ebe87c8f84aabd21a7b1eed55403d"), looks := true }, kinds := [], alts := [], laidByText := true, laidKinds := [.data, .pinned], laidTests := true, laidLooks := .later }
def FramingRequestsUptoCardSaid : Prop := Claim7.holds Tryz.pinned (.plain (OpenSpec.upto framingRequestsSpec)) framingRequestsUptoCard

/-- THE SECOND FORM's CARD OF 'abutmentlaw23.FramingResponses'. -/
def framingResponsesUptoCard : Claim7 := { stood := { row := framingResponsesUptoRow, standIns := [], harness := (true, "abe2f74f51342f9ffee49e7269234b17b05ebe87c8f84aabd21a7b1eed55403d"), looks := true }, kinds := [], alts := [], laidByText := true, laidKinds := [.data, .pinned], laidTests := true, laidLooks := .later }
def FramingResponsesUptoCardSaid : Prop := Claim7.holds Tryz.pinned (.plain (OpenSpec.upto framingResponsesSpec)) framingResponsesUptoCard

/-- THE SECOND FORM's CARD OF 'abutmentlaw25.EncodeBack'. -/
def encodeBackUptoCard : Claim7 := { stood := { row := encodeBackUptoRow, standIns := [], harness := (true, "abe2f74f51342f9ffee49e7269234b17b05ebe87c8f84aabd21a7b1eed55403d"), looks := true }, kinds := [], alts := [], laidByText := true, laidKinds := [.data, .pinned], laidTests := true, laidLooks := .later }
def EncodeBackUptoCardSaid : Prop := Claim7.holds Tryz.pinned (.plain (OpenSpec.upto encodeBackSpec)) encodeBackUptoCard

/-- THE SECOND FORM's CARD OF 'abutmentlaw33.RefusalWhole'. -/
def refusalWholeUptoCard : Claim7 := { stood := { row := refusalWholeUptoRow, standIns := [], harness := (true, "abe2f74f51342f9ffee49e7269234b17b05ebe87c8f84aabd21a7b1eed55403d"), looks := true }, kinds := [], alts := [], laidByText := true, laidKinds := [.data, .pinned], laidTests := true, laidLooks := .later }
def RefusalWholeUptoCardSaid : Prop := Claim7.holds Tryz.pinned (.plain (OpenSpec.upto refusalWholeSpec)) refusalWholeUptoCard
end Rows
end Go.Proofs.YtcpjkemjpgggcaaGreatDoor

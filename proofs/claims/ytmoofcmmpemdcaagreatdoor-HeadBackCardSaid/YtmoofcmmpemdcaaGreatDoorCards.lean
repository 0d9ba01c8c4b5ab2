/-
  DERIVED. GIVEN WITH THE SEED: THE CARDS: each row of YtmoofcmmpemdcaaGreatDoorRows.lean that lists a variable, with what it lists TIED to the program's text (the seventh form; the later family's looks); each row that meets fmt, with fmt's text TOLD by the authors' own Lean function (tested against real Go, not proved from fmt's source: count such statements apart). THE CARD IS WHAT COUNTS. Prove the row's statement (the work); the ties are given (YtmoofcmmpemdcaaGreatDoorTie.lean); close each card by the builder's one call (the guide's Derived/Test/ToyasCard.lean, 'card_holds'). Laid BY PROGRAM, IN A SANDBOX (cutbox-door.mjs). By AI agents, Wed Nov 11 2026. No macro, syntax, notation, axiom, sorry.
-/
import Derived.Test.YtmoofcmmpemdcaaGreatDoorRows
import GoSem.ClaimSeven
namespace Go.Proofs.YtmoofcmmpemdcaaGreatDoor
namespace Rows

/-- THE TIED CARD OF 'abutmentlaw23.FramingRequests'. -/
def framingRequestsCard : Claim7 := { stood := { row := framingRequestsRow, standIns := [], harness := (true, "a294202b8c3d512b31e94333b40556b154a65b9e9cedb18d9ccb7730b0e5b802"), looks := true }, kinds := [], alts := [], laidByText := true, laidKinds := [.data, .pinned], laidTests := true, laidLooks := .later }
def FramingRequestsCardSaid : Prop := Claim7.holds Tryz.pinned (.plain (OpenSpec.ofChange framingRequestsSpec)) framingRequestsCard

/-- THE TIED CARD OF 'abutmentlaw23.FramingResponses'. -/
def framingResponsesCard : Claim7 := { stood := { row := framingResponsesRow, standIns := [], harness := (true, "a294202b8c3d512b31e94333b40556b154a65b9e9cedb18d9ccb7730b0e5b802"), looks := true }, kinds := [], alts := [], laidByText := true, laidKinds := [.data, .pinned], laidTests := true, laidLooks := .later }
def FramingResponsesCardSaid : Prop := Claim7.holds Tryz.pinned (.plain (OpenSpec.ofChange framingResponsesSpec)) framingResponsesCard

/-- THE TIED CARD OF 'abutmentlaw22.HeadFeeds'. -/
def headFeedsCard : Claim7 := { stood := { row := headFeedsRow, standIns := [], harness := (true, "a294202b8c3d512b31e94333b40556b154a65b9e9cedb18d9ccb7730b0e5b802"), looks := true }, kinds := [], alts := [], laidByText := true, laidKinds := [.data, .pinned], laidTests := true, laidLooks := .later }
def HeadFeedsCardSaid : Prop := Claim7.holds Tryz.pinned (.plain (OpenSpec.ofChange headFeedsSpec)) headFeedsCard

/-- THE TIED CARD OF 'abutmentlaw22.HeadBack'. -/
def headBackCard : Claim7 := { stood := { row := headBackRow, standIns := [], harness := (true, "a294202b8c3d512b31e94333b40556b154a65b9e9cedb18d9ccb7730b0e5b802"), looks := true }, kinds := [], alts := [], laidByText := true, laidKinds := [.data, .pinned], laidTests := true, laidLooks := .later }
def HeadBackCardSaid : Prop := Claim7.holds Tryz.pinned (.plain (OpenSpec.ofChange headBackSpec)) headBackCard

/-- THE TIED CARD OF 'abutmentlaw25.EncodeBack'. -/
def encodeBackCard : Claim7 := { stood := { row := encodeBackRow, standIns := [], harness := (true, "a294202b8c3d512b31e94333b40556b154a65b9e9cedb18d9ccb7730b0e5b802"), looks := true }, kinds := [], alts := [], laidByText := true, laidKinds := [.data, .pinned], laidTests := true, laidLooks := .later }
def EncodeBackCardSaid : Prop := Claim7.holds Tryz.pinned (.plain (OpenSpec.ofChange encodeBackSpec)) encodeBackCard

/-- THE TIED CARD OF 'abutmentlaw33.RefusalWhole'. -/
def refusalWholeCard : Claim7 := { stood := { row := refusalWholeRow, standIns := [], harness := (true, "a294202b8c3d512b31e94333b40556b154a65b9e9cedb18d9ccb7730b0e5b802"), looks := true }, kinds := [], alts := [], laidByText := true, laidKinds := [.data, .pinned], laidTests := true, laidLooks := .later }
def RefusalWholeCardSaid : Prop := Claim7.holds Tryz.pinned (.plain (OpenSpec.ofChange refusalWholeSpec)) refusalWholeCard

/-- THE SECOND FORM's CARD OF 'abutmentlaw23.FramingRequests'. -/
def framingRequestsUptoCard : Claim7 := { stood := { row := framingRequestsUptoRow, standIns := [], harness := (true, "a294202b8c3d512b31e94333b40556b154a65b9e9cedb18d9ccb7730b0e5b802"), looks := true }, kinds := [], alts := [], laidByText := true, laidKinds := [.data, .pinned], laidTests := true, laidLooks := .later }
def FramingRequestsUptoCardSaid : Prop := Claim7.holds Tryz.pinned (.plain (OpenSpec.upto framingRequestsSpec)) framingRequestsUptoCard

/-- THE SECOND FORM's CARD OF 'abutmentlaw23.FramingResponses'. -/
def framingResponsesUptoCard : Claim7 := { stood := { row := framingResponsesUptoRow, standIns := [], harness := (true, "a294202b8c3d512b31e94333b40556b154a65b9e9cedb18d9ccb7730b0e5b802"), looks := true }, kinds := [], alts := [], laidByText := true, laidKinds := [.data, .pinned], laidTests := true, laidLooks := .later }
def FramingResponsesUptoCardSaid : Prop := Claim7.holds Tryz.pinned (.plain (OpenSpec.upto framingResponsesSpec)) framingResponsesUptoCard

/-- THE SECOND FORM's CARD OF 'abutmentlaw22.HeadFeeds'. -/
def headFeedsUptoCard : Claim7 := { stood := { row := headFeedsUptoRow, standIns := [], harness := (true, "a294202b8c3d512b31e94333b40556b154a65b9e9cedb18d9ccb7730b0e5b802"), looks := true }, kinds := [], alts := [], laidByText := true, laidKinds := [.data, .pinned], laidTests := true, laidLooks := .later }
def HeadFeedsUptoCardSaid : Prop := Claim7.holds Tryz.pinned (.plain (OpenSpec.upto headFeedsSpec)) headFeedsUptoCard

/-- THE SECOND FORM's CARD OF 'abutmentlaw22.HeadBack'. -/
def headBackUptoCard : Claim7 := { stood := { row := headBackUptoRow, standIns := [], harness := (true, "a294202b8c3d512b31e94333b40556b154a65b9e9cedb18d9ccb7730b0e5b802"), looks := true }, kinds := [], alts := [], laidByText := true, laidKinds := [.data, .pinned], laidTests := true, laidLooks := .later }
def HeadBackUptoCardSaid : Prop := Claim7.holds Tryz.pinned (.plain (OpenSpec.upto headBackSpec)) headBackUptoCard

/-- THE SECOND FORM's CARD OF 'abutmentlaw25.EncodeBack'. -/
def encodeBackUptoCard : Claim7 := { stood := { row := encodeBackUptoRow, standIns := [], harness := (true, "a294202b8c3d512b31e94333b40556b154a65b9e9cedb18d9ccb7730b0e5b802"), looks := true }, kinds := [], alts := [], laidByText := true, laidKinds := [.data, .pinned], laidTests := true, laidLooks := .later }
def EncodeBackUptoCardSaid : Prop := Claim7.holds Tryz.pinned (.plain (OpenSpec.upto encodeBackSpec)) encodeBackUptoCard

/-- THE SECOND FORM's CARD OF 'abutmentlaw33.RefusalWhole'. -/
def refusalWholeUptoCard : Claim7 := { stood := { row := refusalWholeUptoRow, standIns := [], harness := (true, "a294202b8c3d512b31e94333b40556b154a65b9e9cedb18d9ccb7730b0e5b802"), looks := true }, kinds := [], alts := [], laidByText := true, laidKinds := [.data, .pinned], laidTests := true, laidLooks := .later }
def RefusalWholeUptoCardSaid : Prop := Claim7.holds Tryz.pinned (.plain (OpenSpec.upto refusalWholeSpec)) refusalWholeUptoCard
end Rows
end Go.Proofs.YtmoofcmmpemdcaaGreatDoor

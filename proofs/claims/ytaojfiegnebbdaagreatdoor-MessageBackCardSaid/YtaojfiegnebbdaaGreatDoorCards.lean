/-
  DERIVED. GIVEN WITH THE SEED: THE CARDS: each row of YtaojfiegnebbdaaGreatDoorRows.lean that lists a variable, with what it lists TIED to the program's text (the seventh form; the later family's looks); each row that meets fmt, with fmt's text TOLD by the authors' own Lean function (tested against real Go, not proved from fmt's source: count such statements apart). THE CARD IS WHAT COUNTS. Prove the row's statement (the work); the ties are given (YtaojfiegnebbdaaGreatDoorTie.lean); close each card by the builder's one call (the guide's Derived/Test/ToyasCard.lean, 'card_holds'). Laid BY PROGRAM, IN A SANDBOX (cutbox-door.mjs). By AI agents, Wed Nov 11 2026. No macro, syntax, notation, axiom, sorry.
-/
import Derived.Test.YtaojfiegnebbdaaGreatDoorRows
import GoSem.ClaimSeven
namespace Go.Proofs.YtaojfiegnebbdaaGreatDoor
namespace Rows

/-- THE TIED CARD OF 'abutmentlaw28.ReaderNone'. -/
def readerNoneCard : Claim7 := { stood := { row := readerNoneRow, standIns := [], harness := (true, "e9355c07ab597a9f0ba6c1c45b6a05dfd883fc54af384cad5a8b8eee24bd0fd1"), looks := true }, kinds := [], alts := [], laidByText := true, laidKinds := [.data, .pinned], laidTests := true, laidLooks := .later }
def ReaderNoneCardSaid : Prop := Claim7.holds Tryz.pinned (.plain (OpenSpec.ofChange readerNoneSpec)) readerNoneCard

/-- THE TIED CARD OF 'abutmentlaw27.MessagePrints'. -/
def messagePrintsCard : Claim7 := { stood := { row := messagePrintsRow, standIns := [], harness := (true, "e9355c07ab597a9f0ba6c1c45b6a05dfd883fc54af384cad5a8b8eee24bd0fd1"), looks := true }, kinds := [], alts := [], laidByText := true, laidKinds := [.data, .pinned], laidTests := true, laidLooks := .later }
def MessagePrintsCardSaid : Prop := Claim7.holds Tryz.pinned (.plain (OpenSpec.ofChange messagePrintsSpec)) messagePrintsCard

/-- THE TIED CARD OF 'abutmentlaw27.MessageBack'. -/
def messageBackCard : Claim7 := { stood := { row := messageBackRow, standIns := [], harness := (true, "e9355c07ab597a9f0ba6c1c45b6a05dfd883fc54af384cad5a8b8eee24bd0fd1"), looks := true }, kinds := [], alts := [], laidByText := true, laidKinds := [.data, .pinned], laidTests := true, laidLooks := .later }
def MessageBackCardSaid : Prop := Claim7.holds Tryz.pinned (.plain (OpenSpec.ofChange messageBackSpec)) messageBackCard

/-- THE SECOND FORM's CARD OF 'abutmentlaw28.ReaderNone'. -/
def readerNoneUptoCard : Claim7 := { stood := { row := readerNoneUptoRow, standIns := [], harness := (true, "e9355c07ab597a9f0ba6c1c45b6a05dfd883fc54af384cad5a8b8eee24bd0fd1"), looks := true }, kinds := [], alts := [], laidByText := true, laidKinds := [.data, .pinned], laidTests := true, laidLooks := .later }
def ReaderNoneUptoCardSaid : Prop := Claim7.holds Tryz.pinned (.plain (OpenSpec.upto readerNoneSpec)) readerNoneUptoCard

/-- THE SECOND FORM's CARD OF 'abutmentlaw27.MessagePrints'. -/
def messagePrintsUptoCard : Claim7 := { stood := { row := messagePrintsUptoRow, standIns := [], harness := (true, "e9355c07ab597a9f0ba6c1c45b6a05dfd883fc54af384cad5a8b8eee24bd0fd1"), looks := true }, kinds := [], alts := [], laidByText := true, laidKinds := [.data, .pinned], laidTests := true, laidLooks := .later }
def MessagePrintsUptoCardSaid : Prop := Claim7.holds Tryz.pinned (.plain (OpenSpec.upto messagePrintsSpec)) messagePrintsUptoCard

/-- THE SECOND FORM's CARD OF 'abutmentlaw27.MessageBack'. -/
def messageBackUptoCard : Claim7 := { stood := { row := messageBackUptoRow, standIns := [], harness := (true, "e9355c07ab597a9f0ba6c1c45b6a05dfd883fc54af384cad5a8b8eee24bd0fd1"), looks := true }, kinds := [], alts := [], laidByText := true, laidKinds := [.data, .pinned], laidTests := true, laidLooks := .later }
def MessageBackUptoCardSaid : Prop := Claim7.holds Tryz.pinned (.plain (OpenSpec.upto messageBackSpec)) messageBackUptoCard
end Rows
end Go.Proofs.YtaojfiegnebbdaaGreatDoor

/-
  DERIVED. GIVEN WITH THE SEED: THE CARDS: each row of YtcgjpkkhebpdfaaDoorRows.lean that lists a variable, with what it lists TIED to the program's text (the seventh form; the later family's looks); each row that meets fmt, with fmt's text TOLD by the authors' own Lean function (tested against real Go, not proved from fmt's source: count such statements apart). THE CARD IS WHAT COUNTS. Prove the row's statement (the work); the ties are given (YtcgjpkkhebpdfaaDoorTie.lean); close each card by the builder's one call (the guide's Derived/Test/ToyasCard.lean, 'card_holds'). Laid BY PROGRAM, IN A SANDBOX (cutbox-door.mjs). By AI agents, Wed Nov 11 2026. No macro, syntax, notation, axiom, sorry.
-/
import Derived.Test.YtcgjpkkhebpdfaaDoorRows
import GoSem.ClaimSeven
namespace Go.Proofs.YtcgjpkkhebpdfaaDoor
namespace Rows

/-- THE TIED CARD OF 'abutmentlaw22.HeadCuts'. -/
def headCutsCard : Claim7 := { stood := { row := headCutsRow, standIns := [], harness := (true, "2a852f5c630189a2e167634c81c21a06d1db473db5e24d9de0f2cb5f9ef4f7c3"), looks := false }, kinds := [], alts := [], laidByText := true, laidKinds := [.data, .pinned], laidTests := true, laidLooks := .later }
def HeadCutsCardSaid : Prop := Claim7.holds Tryd.pinned (.plain (OpenSpec.ofChange headCutsSpec)) headCutsCard

/-- THE SECOND FORM's CARD OF 'abutmentlaw22.HeadCuts'. -/
def headCutsUptoCard : Claim7 := { stood := { row := headCutsUptoRow, standIns := [], harness := (true, "2a852f5c630189a2e167634c81c21a06d1db473db5e24d9de0f2cb5f9ef4f7c3"), looks := false }, kinds := [], alts := [], laidByText := true, laidKinds := [.data, .pinned], laidTests := true, laidLooks := .later }
def HeadCutsUptoCardSaid : Prop := Claim7.holds Tryd.pinned (.plain (OpenSpec.upto headCutsSpec)) headCutsUptoCard
end Rows
end Go.Proofs.YtcgjpkkhebpdfaaDoor

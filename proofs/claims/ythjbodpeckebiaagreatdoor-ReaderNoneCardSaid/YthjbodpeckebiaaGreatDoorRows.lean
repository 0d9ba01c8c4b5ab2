/-
  NARROWER THAN 'FOR EVERY INPUT', by the rows' own cells (each row's printed sentence says how): MessageRequests: laid · MessageResponses: laid · ReaderAsks: laid · ReaderAnswers: laid · ReaderNone: laid.
  DERIVED. THE GIVEN ROWS OF THIS SEAT. 5 by the template 'for every input the law returns true; each argument reads behind the call as it read before'; 0 by the template 'total and deterministic' (their statements: YthjbodpeckebiaaGreatDoorTotals.lean).
  GIVEN WITH THE SEED: the statements are not yours to turn. If you find one false, say at which input.
  Laid BY PROGRAM, IN A SANDBOX (cutbox-rows.mjs): the forced cells as the released guide's own fill.sh prints them over the translation aa843b24e1b17c8b… (all of the seat's roots in one cut). By AI agents, Wed Nov 11 2026. No macro, syntax, notation, axiom, sorry.
-/
import Derived.Test.YthjbodpeckebiaaGreatDoorChecked
import GoSem.PinnedTables
import GoSem.Claim
import GoSem.ClaimJoined
import GoSem.ClaimMapViews
import Derived.JoinedTies
import Derived.KernelRfl
namespace Go.Proofs.YthjbodpeckebiaaGreatDoor
/- THE CELL 'sum', in the pinned program and in every row, IS THE sha256 OF THE DUMP (.gsa) THAT YthjbodpeckebiaaGreatDoorProg.lean LOADS. Nothing in Lean hashes anything: it is a label: what it is worth is what the hold of that sum in a sandbox is worth. -/
noncomputable def Tryz.pinned : Pinned := { name := "ythjbodpeckebiaagreatdoor", sum := "aa843b24e1b17c8bc94f86609ac3ae27890348de118c383d1961afc9d58797a0", checked := Tryz.checked }
namespace Rows
def none {H : Type} : Left H := { results := [], args := [] }

/- WHAT THE LISTED PACKAGE-LEVEL VARIABLES READ AS WHEN THE CALL BEGINS. Each datum BY PROGRAM (the guide's laid-datum.mjs) off the statement by which the dump's own 'gosem.cut.vars' lays the variable. In a bare row this is a premise. The card (YthjbodpeckebiaaGreatDoorCards.lean) ties it to the program's text. -/
def laid_unicode_utf8_acceptRanges {H : Type} : DataW H := .agg [.agg [.lit (.int .u8 128), .lit (.int .u8 191)], .agg [.lit (.int .u8 160), .lit (.int .u8 191)], .agg [.lit (.int .u8 128), .lit (.int .u8 159)], .agg [.lit (.int .u8 144), .lit (.int .u8 191)], .agg [.lit (.int .u8 128), .lit (.int .u8 143)], .agg [.lit (.int .u8 0), .lit (.int .u8 0)], .agg [.lit (.int .u8 0), .lit (.int .u8 0)], .agg [.lit (.int .u8 0), .lit (.int .u8 0)], .agg [.lit (.int .u8 0), .lit (.int .u8 0)], .agg [.lit (.int .u8 0), .lit (.int .u8 0)], .agg [.lit (.int .u8 0), .lit (.int .u8 0)], .agg [.lit (.int .u8 0), .lit (.int .u8 0)], .agg [.lit (.int .u8 0), .lit (.int .u8 0)], .agg [.lit (.int .u8 0), .lit (.int .u8 0)], .agg [.lit (.int .u8 0), .lit (.int .u8 0)], .agg [.lit (.int .u8 0), .lit (.int .u8 0)]]
/-- One of Go's own tables, pinned by name: the form's constant. -/
def laid_unicode_utf8_first : DataW Unit := Go.Pinned.utf8First

/-- 'abutmentlaw27.MessageRequests': WHATEVER THE INPUT: true; the input reads as it did. -/
def messageRequestsSpec : ChangeSpec := { name := "messageRequests", fn := fun _ => fun
  | [d] => { results := [.lit (.bool true)], args := [d] }
  | _ => none }
def messageRequestsRow : OpenClaim := { program := "ythjbodpeckebiaagreatdoor", sum := "aa843b24e1b17c8bc94f86609ac3ae27890348de118c383d1961afc9d58797a0", func := "abutment/abutmentlaw27.MessageRequests", spec := "messageRequests", inPlace := ["internal/bytealg.CountString", "internal/bytealg.IndexByteString", "internal/bytealg.IndexString", "internal/abi.NoEscape", "internal/bytealg.MakeNoZero"], unfollowed := true, recurses := true, named := ["unicode/utf8.first", "unicode/utf8.acceptRanges", "internal/bytealg.MaxLen"], apart := false, laid := [("unicode/utf8.acceptRanges", laid_unicode_utf8_acceptRanges), ("unicode/utf8.first", laid_unicode_utf8_first)] }
def MessageRequestsSaid : Prop := messageRequestsRow.holds Tryz.pinned (OpenSpec.ofChange messageRequestsSpec)

/-- ITS FALSE NEIGHBOUR: 'it returns false'. Refute it at one input. -/
def messageRequestsWrong : ChangeSpec := { name := "messageRequests", fn := fun _ => fun
  | [d] => { results := [.lit (.bool false)], args := [d] }
  | _ => none }
def MessageRequestsWrongFalsely : Prop := messageRequestsRow.holds Tryz.pinned (OpenSpec.ofChange messageRequestsWrong)

/-- 'abutmentlaw27.MessageResponses': WHATEVER THE INPUT: true; the input reads as it did. -/
def messageResponsesSpec : ChangeSpec := { name := "messageResponses", fn := fun _ => fun
  | [d] => { results := [.lit (.bool true)], args := [d] }
  | _ => none }
def messageResponsesRow : OpenClaim := { program := "ythjbodpeckebiaagreatdoor", sum := "aa843b24e1b17c8bc94f86609ac3ae27890348de118c383d1961afc9d58797a0", func := "abutment/abutmentlaw27.MessageResponses", spec := "messageResponses", inPlace := ["internal/bytealg.CountString", "internal/bytealg.IndexByteString", "internal/bytealg.IndexString", "internal/abi.NoEscape", "internal/bytealg.MakeNoZero"], unfollowed := true, recurses := true, named := ["unicode/utf8.first", "unicode/utf8.acceptRanges", "internal/bytealg.MaxLen"], apart := false, laid := [("unicode/utf8.acceptRanges", laid_unicode_utf8_acceptRanges), ("unicode/utf8.first", laid_unicode_utf8_first)] }
def MessageResponsesSaid : Prop := messageResponsesRow.holds Tryz.pinned (OpenSpec.ofChange messageResponsesSpec)

/-- ITS FALSE NEIGHBOUR: 'it returns false'. Refute it at one input. -/
def messageResponsesWrong : ChangeSpec := { name := "messageResponses", fn := fun _ => fun
  | [d] => { results := [.lit (.bool false)], args := [d] }
  | _ => none }
def MessageResponsesWrongFalsely : Prop := messageResponsesRow.holds Tryz.pinned (OpenSpec.ofChange messageResponsesWrong)

/-- 'abutmentlaw28.ReaderAsks': WHATEVER THE INPUT: true; the input reads as it did. -/
def readerAsksSpec : ChangeSpec := { name := "readerAsks", fn := fun _ => fun
  | [d1, d2] => { results := [.lit (.bool true)], args := [d1, d2] }
  | _ => none }
def readerAsksRow : OpenClaim := { program := "ythjbodpeckebiaagreatdoor", sum := "aa843b24e1b17c8bc94f86609ac3ae27890348de118c383d1961afc9d58797a0", func := "abutment/abutmentlaw28.ReaderAsks", spec := "readerAsks", inPlace := ["internal/bytealg.CountString", "internal/bytealg.IndexByteString", "internal/bytealg.IndexString", "internal/abi.NoEscape", "internal/bytealg.MakeNoZero"], unfollowed := true, recurses := true, named := ["unicode/utf8.first", "unicode/utf8.acceptRanges", "internal/bytealg.MaxLen"], apart := false, laid := [("unicode/utf8.acceptRanges", laid_unicode_utf8_acceptRanges), ("unicode/utf8.first", laid_unicode_utf8_first)] }
def ReaderAsksSaid : Prop := readerAsksRow.holds Tryz.pinned (OpenSpec.ofChange readerAsksSpec)

/-- ITS FALSE NEIGHBOUR: 'it returns false'. Refute it at one input. -/
def readerAsksWrong : ChangeSpec := { name := "readerAsks", fn := fun _ => fun
  | [d1, d2] => { results := [.lit (.bool false)], args := [d1, d2] }
  | _ => none }
def ReaderAsksWrongFalsely : Prop := readerAsksRow.holds Tryz.pinned (OpenSpec.ofChange readerAsksWrong)

/-- 'abutmentlaw28.ReaderAnswers': WHATEVER THE INPUT: true; the input reads as it did. -/
def readerAnswersSpec : ChangeSpec := { name := "readerAnswers", fn := fun _ => fun
  | [d1, d2] => { results := [.lit (.bool true)], args := [d1, d2] }
  | _ => none }
def readerAnswersRow : OpenClaim := { program := "ythjbodpeckebiaagreatdoor", sum := "aa843b24e1b17c8bc94f86609ac3ae27890348de118c383d1961afc9d58797a0", func := "abutment/abutmentlaw28.ReaderAnswers", spec := "readerAnswers", inPlace := ["internal/bytealg.CountString", "internal/bytealg.IndexByteString", "internal/bytealg.IndexString", "internal/abi.NoEscape", "internal/bytealg.MakeNoZero"], unfollowed := true, recurses := true, named := ["unicode/utf8.first", "unicode/utf8.acceptRanges", "internal/bytealg.MaxLen"], apart := false, laid := [("unicode/utf8.acceptRanges", laid_unicode_utf8_acceptRanges), ("unicode/utf8.first", laid_unicode_utf8_first)] }
def ReaderAnswersSaid : Prop := readerAnswersRow.holds Tryz.pinned (OpenSpec.ofChange readerAnswersSpec)

/-- ITS FALSE NEIGHBOUR: 'it returns false'. Refute it at one input. -/
def readerAnswersWrong : ChangeSpec := { name := "readerAnswers", fn := fun _ => fun
  | [d1, d2] => { results := [.lit (.bool false)], args := [d1, d2] }
  | _ => none }
def ReaderAnswersWrongFalsely : Prop := readerAnswersRow.holds Tryz.pinned (OpenSpec.ofChange readerAnswersWrong)

/-- 'abutmentlaw28.ReaderNone': WHATEVER THE INPUT: true; the input reads as it did. -/
def readerNoneSpec : ChangeSpec := { name := "readerNone", fn := fun _ => fun
  | [d] => { results := [.lit (.bool true)], args := [d] }
  | _ => none }
def readerNoneRow : OpenClaim := { program := "ythjbodpeckebiaagreatdoor", sum := "aa843b24e1b17c8bc94f86609ac3ae27890348de118c383d1961afc9d58797a0", func := "abutment/abutmentlaw28.ReaderNone", spec := "readerNone", inPlace := ["internal/bytealg.CountString", "internal/bytealg.IndexByteString", "internal/bytealg.IndexString", "internal/abi.NoEscape", "internal/bytealg.MakeNoZero"], unfollowed := true, recurses := true, named := ["unicode/utf8.first", "unicode/utf8.acceptRanges", "internal/bytealg.MaxLen"], apart := false, laid := [("unicode/utf8.acceptRanges", laid_unicode_utf8_acceptRanges), ("unicode/utf8.first", laid_unicode_utf8_first)] }
def ReaderNoneSaid : Prop := readerNoneRow.holds Tryz.pinned (OpenSpec.ofChange readerNoneSpec)

/-- ITS FALSE NEIGHBOUR: 'it returns false'. Refute it at one input. -/
def readerNoneWrong : ChangeSpec := { name := "readerNone", fn := fun _ => fun
  | [d] => { results := [.lit (.bool false)], args := [d] }
  | _ => none }
def ReaderNoneWrongFalsely : Prop := readerNoneRow.holds Tryz.pinned (OpenSpec.ofChange readerNoneWrong)

/- THE SECOND FORM. 'bulk': how many values and letters a reading holds, each counted each time it is reached (what is shared counts as often as it is met; a slice's spare places count too). A statement '..UptoSaid' is the law's where the arguments, and the package variables that the reading takes, are together of bulk at most 1048576: NARROWER than '..Said'. Prove '..Said' where nothing that the law and all that it calls make is longer than what came in: it says more and counts as full. Else prove '..UptoSaid'. A law counts once. -/
mutual
def uptoBulk {H : Type} : DataW H → Nat
  | .lit (.string bytes) => bytes.length + 1
  | .lit _ => 1
  | .nil => 1
  | .ptr d => uptoBulk d + 1
  | .slice elems spare => uptoBulkAll elems + uptoBulkAll spare + 1
  | .agg parts => uptoBulkAll parts + 1
  | .iface _ d => uptoBulk d + 1
  | .map entries => uptoBulkEntries entries + 1
  | .held _ => 1
def uptoBulkAll {H : Type} : List (DataW H) → Nat
  | [] => 0
  | d :: r => uptoBulk d + uptoBulkAll r
def uptoBulkEntries {H : Type} : List (Lit × DataW H) → Nat
  | [] => 0
  | x :: r => uptoBulkEntry x + uptoBulkEntries r
def uptoBulkEntry {H : Type} : Lit × DataW H → Nat
  | (.string bytes, d) => bytes.length + uptoBulk d + 1
  | (_, d) => uptoBulk d + 1
 end
def uptoSmall : (H : Type) → List (DataW H) → Bool := fun _ ds => decide (uptoBulkAll ds ≤ 1048576)
def OpenSpec.upto (s : _root_.Go.ChangeSpec) : _root_.Go.OpenSpec := { _root_.Go.OpenSpec.ofChange s with cond := some uptoSmall }

/-- 'abutmentlaw27.MessageRequests', WHERE WHAT IT READS IS OF BULK AT MOST 1048576: true; the input reads as it did. -/
def messageRequestsUptoRow : OpenClaim := { program := "ythjbodpeckebiaagreatdoor", sum := "aa843b24e1b17c8bc94f86609ac3ae27890348de118c383d1961afc9d58797a0", func := "abutment/abutmentlaw27.MessageRequests", spec := "messageRequests", inPlace := ["internal/bytealg.CountString", "internal/bytealg.IndexByteString", "internal/bytealg.IndexString", "internal/abi.NoEscape", "internal/bytealg.MakeNoZero"], unfollowed := true, recurses := true, named := ["unicode/utf8.first", "unicode/utf8.acceptRanges", "internal/bytealg.MaxLen"], apart := false, laid := [("unicode/utf8.acceptRanges", laid_unicode_utf8_acceptRanges), ("unicode/utf8.first", laid_unicode_utf8_first)], narrowed := true }
def MessageRequestsUptoSaid : Prop := messageRequestsUptoRow.holds Tryz.pinned (OpenSpec.upto messageRequestsSpec)

/-- 'abutmentlaw27.MessageResponses', WHERE WHAT IT READS IS OF BULK AT MOST 1048576: true; the input reads as it did. -/
def messageResponsesUptoRow : OpenClaim := { program := "ythjbodpeckebiaagreatdoor", sum := "aa843b24e1b17c8bc94f86609ac3ae27890348de118c383d1961afc9d58797a0", func := "abutment/abutmentlaw27.MessageResponses", spec := "messageResponses", inPlace := ["internal/bytealg.CountString", "internal/bytealg.IndexByteString", "internal/bytealg.IndexString", "internal/abi.NoEscape", "internal/bytealg.MakeNoZero"], unfollowed := true, recurses := true, named := ["unicode/utf8.first", "unicode/utf8.acceptRanges", "internal/bytealg.MaxLen"], apart := false, laid := [("unicode/utf8.acceptRanges", laid_unicode_utf8_acceptRanges), ("unicode/utf8.first", laid_unicode_utf8_first)], narrowed := true }
def MessageResponsesUptoSaid : Prop := messageResponsesUptoRow.holds Tryz.pinned (OpenSpec.upto messageResponsesSpec)

/-- 'abutmentlaw28.ReaderAsks', WHERE WHAT IT READS IS OF BULK AT MOST 1048576: true; the input reads as it did. -/
def readerAsksUptoRow : OpenClaim := { program := "ythjbodpeckebiaagreatdoor", sum := "aa843b24e1b17c8bc94f86609ac3ae27890348de118c383d1961afc9d58797a0", func := "abutment/abutmentlaw28.ReaderAsks", spec := "readerAsks", inPlace := ["internal/bytealg.CountString", "internal/bytealg.IndexByteString", "internal/bytealg.IndexString", "internal/abi.NoEscape", "internal/bytealg.MakeNoZero"], unfollowed := true, recurses := true, named := ["unicode/utf8.first", "unicode/utf8.acceptRanges", "internal/bytealg.MaxLen"], apart := false, laid := [("unicode/utf8.acceptRanges", laid_unicode_utf8_acceptRanges), ("unicode/utf8.first", laid_unicode_utf8_first)], narrowed := true }
def ReaderAsksUptoSaid : Prop := readerAsksUptoRow.holds Tryz.pinned (OpenSpec.upto readerAsksSpec)

/-- 'abutmentlaw28.ReaderAnswers', WHERE WHAT IT READS IS OF BULK AT MOST 1048576: true; the input reads as it did. -/
def readerAnswersUptoRow : OpenClaim := { program := "ythjbodpeckebiaagreatdoor", sum := "aa843b24e1b17c8bc94f86609ac3ae27890348de118c383d1961afc9d58797a0", func := "abutment/abutmentlaw28.ReaderAnswers", spec := "readerAnswers", inPlace := ["internal/bytealg.CountString", "internal/bytealg.IndexByteString", "internal/bytealg.IndexString", "internal/abi.NoEscape", "internal/bytealg.MakeNoZero"], unfollowed := true, recurses := true, named := ["unicode/utf8.first", "unicode/utf8.acceptRanges", "internal/bytealg.MaxLen"], apart := false, laid := [("unicode/utf8.acceptRanges", laid_unicode_utf8_acceptRanges), ("unicode/utf8.first", laid_unicode_utf8_first)], narrowed := true }
def ReaderAnswersUptoSaid : Prop := readerAnswersUptoRow.holds Tryz.pinned (OpenSpec.upto readerAnswersSpec)

/-- 'abutmentlaw28.ReaderNone', WHERE WHAT IT READS IS OF BULK AT MOST 1048576: true; the input reads as it did. -/
def readerNoneUptoRow : OpenClaim := { program := "ythjbodpeckebiaagreatdoor", sum := "aa843b24e1b17c8bc94f86609ac3ae27890348de118c383d1961afc9d58797a0", func := "abutment/abutmentlaw28.ReaderNone", spec := "readerNone", inPlace := ["internal/bytealg.CountString", "internal/bytealg.IndexByteString", "internal/bytealg.IndexString", "internal/abi.NoEscape", "internal/bytealg.MakeNoZero"], unfollowed := true, recurses := true, named := ["unicode/utf8.first", "unicode/utf8.acceptRanges", "internal/bytealg.MaxLen"], apart := false, laid := [("unicode/utf8.acceptRanges", laid_unicode_utf8_acceptRanges), ("unicode/utf8.first", laid_unicode_utf8_first)], narrowed := true }
def ReaderNoneUptoSaid : Prop := readerNoneUptoRow.holds Tryz.pinned (OpenSpec.upto readerNoneSpec)

end Rows
end Go.Proofs.YthjbodpeckebiaaGreatDoor

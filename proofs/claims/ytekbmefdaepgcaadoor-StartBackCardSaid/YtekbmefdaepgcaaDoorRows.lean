/-
  NARROWER THAN 'FOR EVERY INPUT', by the rows' own cells (each row's printed sentence says how): StartRequests: laid · StartStatuses: laid · StartLines: laid · StartBack: laid.
  DERIVED. THE GIVEN ROWS OF THIS SEAT. 4 by the template 'for every input the law returns true; each argument reads behind the call as it read before'; 0 by the template 'total and deterministic' (their statements: YtekbmefdaepgcaaDoorTotals.lean).
  GIVEN WITH THE SEED: the statements are not yours to turn. If you find one false, say at which input.
  Laid BY PROGRAM, IN A SANDBOX (cutbox-rows.mjs): the forced cells as the released guide's own fill.sh prints them over the translation 8474bba9612796c3… (all of the seat's roots in one cut). By AI agents, Wed Nov 11 2026. No macro, syntax, notation, axiom, sorry.
-/
import Derived.Test.YtekbmefdaepgcaaDoorChecked
import GoSem.PinnedTables
import GoSem.Claim
import GoSem.ClaimJoined
import GoSem.ClaimMapViews
import Derived.JoinedTies
import Derived.KernelRfl
namespace Go.Proofs.YtekbmefdaepgcaaDoor
/- THE CELL 'sum', in the pinned program and in every row, IS THE sha256 OF THE DUMP (.gsa) THAT YtekbmefdaepgcaaDoorProg.lean LOADS. Nothing in Lean hashes anything: it is a label: what it is worth is what the hold of that sum in a sandbox is worth. -/
noncomputable def Tryd.pinned : Pinned := { name := "ytekbmefdaepgcaadoor", sum := "8474bba9612796c350eea28857dfa590710fb8c7fca755c2337da584712da7d6", checked := Tryd.checked }
namespace Rows
def none {H : Type} : Left H := { results := [], args := [] }

/- WHAT THE LISTED PACKAGE-LEVEL VARIABLES READ AS WHEN THE CALL BEGINS. Each datum BY PROGRAM (the guide's laid-datum.mjs) off the statement by which the dump's own 'gosem.cut.vars' lays the variable. In a bare row this is a premise. The card (YtekbmefdaepgcaaDoorCards.lean) ties it to the program's text. -/
def laid_unicode_utf8_acceptRanges {H : Type} : DataW H := .agg [.agg [.lit (.int .u8 128), .lit (.int .u8 191)], .agg [.lit (.int .u8 160), .lit (.int .u8 191)], .agg [.lit (.int .u8 128), .lit (.int .u8 159)], .agg [.lit (.int .u8 144), .lit (.int .u8 191)], .agg [.lit (.int .u8 128), .lit (.int .u8 143)], .agg [.lit (.int .u8 0), .lit (.int .u8 0)], .agg [.lit (.int .u8 0), .lit (.int .u8 0)], .agg [.lit (.int .u8 0), .lit (.int .u8 0)], .agg [.lit (.int .u8 0), .lit (.int .u8 0)], .agg [.lit (.int .u8 0), .lit (.int .u8 0)], .agg [.lit (.int .u8 0), .lit (.int .u8 0)], .agg [.lit (.int .u8 0), .lit (.int .u8 0)], .agg [.lit (.int .u8 0), .lit (.int .u8 0)], .agg [.lit (.int .u8 0), .lit (.int .u8 0)], .agg [.lit (.int .u8 0), .lit (.int .u8 0)], .agg [.lit (.int .u8 0), .lit (.int .u8 0)]]
/-- One of Go's own tables, pinned by name: the form's constant. -/
def laid_unicode_utf8_first : DataW Unit := Go.Pinned.utf8First

/-- 'abutmentlaw15.StartRequests': WHATEVER THE INPUT: true; the input reads as it did. -/
def startRequestsSpec : ChangeSpec := { name := "startRequests", fn := fun _ => fun
  | [d] => { results := [.lit (.bool true)], args := [d] }
  | _ => none }
def startRequestsRow : OpenClaim := { program := "ytekbmefdaepgcaadoor", sum := "8474bba9612796c350eea28857dfa590710fb8c7fca755c2337da584712da7d6", func := "abutment/abutmentlaw15.StartRequests", spec := "startRequests", inPlace := ["internal/bytealg.CountString", "internal/bytealg.IndexByteString", "internal/bytealg.IndexString"], unfollowed := true, recurses := true, named := ["unicode/utf8.first", "unicode/utf8.acceptRanges", "internal/bytealg.MaxLen"], apart := false, laid := [("unicode/utf8.acceptRanges", laid_unicode_utf8_acceptRanges), ("unicode/utf8.first", laid_unicode_utf8_first)] }
def StartRequestsSaid : Prop := startRequestsRow.holds Tryd.pinned (OpenSpec.ofChange startRequestsSpec)

/-- ITS FALSE NEIGHBOUR: 'it returns false'. Refute it at one input. -/
def startRequestsWrong : ChangeSpec := { name := "startRequests", fn := fun _ => fun
  | [d] => { results := [.lit (.bool false)], args := [d] }
  | _ => none }
def StartRequestsWrongFalsely : Prop := startRequestsRow.holds Tryd.pinned (OpenSpec.ofChange startRequestsWrong)

/-- 'abutmentlaw15.StartStatuses': WHATEVER THE INPUT: true; the input reads as it did. -/
def startStatusesSpec : ChangeSpec := { name := "startStatuses", fn := fun _ => fun
  | [d1, d2] => { results := [.lit (.bool true)], args := [d1, d2] }
  | _ => none }
def startStatusesRow : OpenClaim := { program := "ytekbmefdaepgcaadoor", sum := "8474bba9612796c350eea28857dfa590710fb8c7fca755c2337da584712da7d6", func := "abutment/abutmentlaw15.StartStatuses", spec := "startStatuses", inPlace := ["internal/bytealg.CountString", "internal/bytealg.IndexByteString", "internal/bytealg.IndexString"], unfollowed := true, recurses := true, named := ["unicode/utf8.first", "unicode/utf8.acceptRanges", "internal/bytealg.MaxLen"], apart := false, laid := [("unicode/utf8.acceptRanges", laid_unicode_utf8_acceptRanges), ("unicode/utf8.first", laid_unicode_utf8_first)] }
def StartStatusesSaid : Prop := startStatusesRow.holds Tryd.pinned (OpenSpec.ofChange startStatusesSpec)

/-- ITS FALSE NEIGHBOUR: 'it returns false'. Refute it at one input. -/
def startStatusesWrong : ChangeSpec := { name := "startStatuses", fn := fun _ => fun
  | [d1, d2] => { results := [.lit (.bool false)], args := [d1, d2] }
  | _ => none }
def StartStatusesWrongFalsely : Prop := startStatusesRow.holds Tryd.pinned (OpenSpec.ofChange startStatusesWrong)

/-- 'abutmentlaw15.StartLines': WHATEVER THE INPUT: true; the input reads as it did. -/
def startLinesSpec : ChangeSpec := { name := "startLines", fn := fun _ => fun
  | [d] => { results := [.lit (.bool true)], args := [d] }
  | _ => none }
def startLinesRow : OpenClaim := { program := "ytekbmefdaepgcaadoor", sum := "8474bba9612796c350eea28857dfa590710fb8c7fca755c2337da584712da7d6", func := "abutment/abutmentlaw15.StartLines", spec := "startLines", inPlace := ["internal/bytealg.CountString", "internal/bytealg.IndexByteString", "internal/bytealg.IndexString", "internal/abi.NoEscape", "internal/bytealg.MakeNoZero"], unfollowed := true, recurses := true, named := ["unicode/utf8.first", "unicode/utf8.acceptRanges", "internal/bytealg.MaxLen"], apart := false, laid := [("unicode/utf8.acceptRanges", laid_unicode_utf8_acceptRanges), ("unicode/utf8.first", laid_unicode_utf8_first)] }
def StartLinesSaid : Prop := startLinesRow.holds Tryd.pinned (OpenSpec.ofChange startLinesSpec)

/-- ITS FALSE NEIGHBOUR: 'it returns false'. Refute it at one input. -/
def startLinesWrong : ChangeSpec := { name := "startLines", fn := fun _ => fun
  | [d] => { results := [.lit (.bool false)], args := [d] }
  | _ => none }
def StartLinesWrongFalsely : Prop := startLinesRow.holds Tryd.pinned (OpenSpec.ofChange startLinesWrong)

/-- 'abutmentlaw15.StartBack': WHATEVER THE INPUT: true; the input reads as it did. -/
def startBackSpec : ChangeSpec := { name := "startBack", fn := fun _ => fun
  | [d] => { results := [.lit (.bool true)], args := [d] }
  | _ => none }
def startBackRow : OpenClaim := { program := "ytekbmefdaepgcaadoor", sum := "8474bba9612796c350eea28857dfa590710fb8c7fca755c2337da584712da7d6", func := "abutment/abutmentlaw15.StartBack", spec := "startBack", inPlace := ["internal/bytealg.CountString", "internal/bytealg.IndexByteString", "internal/bytealg.IndexString", "internal/abi.NoEscape", "internal/bytealg.MakeNoZero"], unfollowed := true, recurses := true, named := ["unicode/utf8.first", "unicode/utf8.acceptRanges", "internal/bytealg.MaxLen"], apart := false, laid := [("unicode/utf8.acceptRanges", laid_unicode_utf8_acceptRanges), ("unicode/utf8.first", laid_unicode_utf8_first)] }
def StartBackSaid : Prop := startBackRow.holds Tryd.pinned (OpenSpec.ofChange startBackSpec)

/-- ITS FALSE NEIGHBOUR: 'it returns false'. Refute it at one input. -/
def startBackWrong : ChangeSpec := { name := "startBack", fn := fun _ => fun
  | [d] => { results := [.lit (.bool false)], args := [d] }
  | _ => none }
def StartBackWrongFalsely : Prop := startBackRow.holds Tryd.pinned (OpenSpec.ofChange startBackWrong)

/- THE SECOND FORM. 'bulk': how many values and letters a reading holds, each counted each time it is reached (what is shared counts as often as it is met; a slice's spare places count too). A statement '..UptoSaid' is the law's where the arguments, and the package variables that the reading takes, are together of bulk at most 1048576: NARROWER than '..Said'. Prove '..Said' where nothing that the law and all that it calls make is longer than what came in: it says more and counts as full. Else prove '..UptoSaid'. A law counts once. -/
mutual
def uptoBulk {H : Type} : DataW H → Nat
  | .lit (.string bytes) => bytes.length + 1
  | .lit _ => 1
  | .nil => 1
  | .ptr d => uptoBulk d + 1
  | .slice elems spare => uptoBulkAll elems + uptoBulkAll spare + 1
  | .agg parts => uptoBulkAll parts + 1
  | .iface _ d => uptoBulk d + 1
  | .map entries => uptoBulkEntries entries + 1
  | .held _ => 1
def uptoBulkAll {H : Type} : List (DataW H) → Nat
  | [] => 0
  | d :: r => uptoBulk d + uptoBulkAll r
def uptoBulkEntries {H : Type} : List (Lit × DataW H) → Nat
  | [] => 0
  | x :: r => uptoBulkEntry x + uptoBulkEntries r
def uptoBulkEntry {H : Type} : Lit × DataW H → Nat
  | (.string bytes, d) => bytes.length + uptoBulk d + 1
  | (_, d) => uptoBulk d + 1
 end
def uptoSmall : (H : Type) → List (DataW H) → Bool := fun _ ds => decide (uptoBulkAll ds ≤ 1048576)
def OpenSpec.upto (s : _root_.Go.ChangeSpec) : _root_.Go.OpenSpec := { _root_.Go.OpenSpec.ofChange s with cond := some uptoSmall }

/-- 'abutmentlaw15.StartRequests', WHERE WHAT IT READS IS OF BULK AT MOST 1048576: true; the input reads as it did. -/
def startRequestsUptoRow : OpenClaim := { program := "ytekbmefdaepgcaadoor", sum := "8474bba9612796c350eea28857dfa590710fb8c7fca755c2337da584712da7d6", func := "abutment/abutmentlaw15.StartRequests", spec := "startRequests", inPlace := ["internal/bytealg.CountString", "internal/bytealg.IndexByteString", "internal/bytealg.IndexString"], unfollowed := true, recurses := true, named := ["unicode/utf8.first", "unicode/utf8.acceptRanges", "internal/bytealg.MaxLen"], apart := false, laid := [("unicode/utf8.acceptRanges", laid_unicode_utf8_acceptRanges), ("unicode/utf8.first", laid_unicode_utf8_first)], narrowed := true }
def StartRequestsUptoSaid : Prop := startRequestsUptoRow.holds Tryd.pinned (OpenSpec.upto startRequestsSpec)

/-- 'abutmentlaw15.StartStatuses', WHERE WHAT IT READS IS OF BULK AT MOST 1048576: true; the input reads as it did. -/
def startStatusesUptoRow : OpenClaim := { program := "ytekbmefdaepgcaadoor", sum := "8474bba9612796c350eea28857dfa590710fb8c7fca755c2337da584712da7d6", func := "abutment/abutmentlaw15.StartStatuses", spec := "startStatuses", inPlace := ["internal/bytealg.CountString", "internal/bytealg.IndexByteString", "internal/bytealg.IndexString"], unfollowed := true, recurses := true, named := ["unicode/utf8.first", "unicode/utf8.acceptRanges", "internal/bytealg.MaxLen"], apart := false, laid := [("unicode/utf8.acceptRanges", laid_unicode_utf8_acceptRanges), ("unicode/utf8.first", laid_unicode_utf8_first)], narrowed := true }
def StartStatusesUptoSaid : Prop := startStatusesUptoRow.holds Tryd.pinned (OpenSpec.upto startStatusesSpec)

/-- 'abutmentlaw15.StartLines', WHERE WHAT IT READS IS OF BULK AT MOST 1048576: true; the input reads as it did. -/
def startLinesUptoRow : OpenClaim := { program := "ytekbmefdaepgcaadoor", sum := "8474bba9612796c350eea28857dfa590710fb8c7fca755c2337da584712da7d6", func := "abutment/abutmentlaw15.StartLines", spec := "startLines", inPlace := ["internal/bytealg.CountString", "internal/bytealg.IndexByteString", "internal/bytealg.IndexString", "internal/abi.NoEscape", "internal/bytealg.MakeNoZero"], unfollowed := true, recurses := true, named := ["unicode/utf8.first", "unicode/utf8.acceptRanges", "internal/bytealg.MaxLen"], apart := false, laid := [("unicode/utf8.acceptRanges", laid_unicode_utf8_acceptRanges), ("unicode/utf8.first", laid_unicode_utf8_first)], narrowed := true }
def StartLinesUptoSaid : Prop := startLinesUptoRow.holds Tryd.pinned (OpenSpec.upto startLinesSpec)

/-- 'abutmentlaw15.StartBack', WHERE WHAT IT READS IS OF BULK AT MOST 1048576: true; the input reads as it did. -/
def startBackUptoRow : OpenClaim := { program := "ytekbmefdaepgcaadoor", sum := "8474bba9612796c350eea28857dfa590710fb8c7fca755c2337da584712da7d6", func := "abutment/abutmentlaw15.StartBack", spec := "startBack", inPlace := ["internal/bytealg.CountString", "internal/bytealg.IndexByteString", "internal/bytealg.IndexString", "internal/abi.NoEscape", "internal/bytealg.MakeNoZero"], unfollowed := true, recurses := true, named := ["unicode/utf8.first", "unicode/utf8.acceptRanges", "internal/bytealg.MaxLen"], apart := false, laid := [("unicode/utf8.acceptRanges", laid_unicode_utf8_acceptRanges), ("unicode/utf8.first", laid_unicode_utf8_first)], narrowed := true }
def StartBackUptoSaid : Prop := startBackUptoRow.holds Tryd.pinned (OpenSpec.upto startBackSpec)

end Rows
end Go.Proofs.YtekbmefdaepgcaaDoor

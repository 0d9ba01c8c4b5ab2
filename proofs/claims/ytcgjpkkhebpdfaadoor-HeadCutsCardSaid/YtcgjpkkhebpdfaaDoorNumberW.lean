/- The reference's Number at base 10, for a text of 1 to 18 digits: the walk. -/
import Derived.Test.YtcgjpkkhebpdfaaDoorNumber
set_option linter.unusedSimpArgs false
set_option linter.unusedVariables false
namespace Go.Proofs.YtcgjpkkhebpdfaaDoor
open Go.RowKit
def strSize : Value → Nat
  | .string t => t.size
  | _ => 0
theorem index_at (s : ByteArray) (k : Nat) (h : k < s.size) {b : Int} (hb : b = bt s k) (W : World) : (Instr.index 9 (.string s) (.int .i64 (k : Int))).run Tryd.prog W = .ok (.int .u8 b) W := by rw [hb]; exact index_bt s k h W
end Go.Proofs.YtcgjpkkhebpdfaaDoor

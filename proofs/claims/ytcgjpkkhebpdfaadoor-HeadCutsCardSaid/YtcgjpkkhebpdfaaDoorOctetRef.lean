/- The reference's layer 1: Tchar, Token, Value, Visible: what each answers. -/
import Derived.Test.YtcgjpkkhebpdfaaDoorOctet
set_option linter.unusedSimpArgs false
set_option linter.unusedVariables false
namespace Go.Proofs.YtcgjpkkhebpdfaaDoor
open Go.RowKit
theorem tcharB_low {r : Int} (ha : alnum r = true) : tcharB r = true := by unfold tcharB; rw [ha]; rfl
theorem take_all_one {s : ByteArray} {q : UInt8 → Bool} {k : Nat} (h : (s.data.toList.take k).all q = true) (hk : k < s.size) (hq : q s[k] = true) : (s.data.toList.take (k + 1)).all q = true :=
  take_all_to (n := 1) h (by omega) (fun j hj => by
    obtain rfl : j = 0 := by omega
    rw [Nat.add_zero, get_bang hk]; exact hq)
end Go.Proofs.YtcgjpkkhebpdfaaDoor

/- The reference's Formed and Minor: what each answers, for every text. -/
import Derived.Test.YtcgjpkkhebpdfaaDoorStartB
set_option linter.unusedSimpArgs false
set_option linter.unusedVariables false
namespace Go.Proofs.YtcgjpkkhebpdfaaDoor
open Go.RowKit
theorem take_prefix (l p : List UInt8) : (l.take p.length == p) = Lib.hasPrefix l p := by
  unfold Lib.hasPrefix
  rw [Bool.eq_iff_iff, beq_iff_eq, List.isPrefixOf_iff_prefix, List.prefix_iff_eq_take]
  exact ⟨Eq.symm, Eq.symm⟩
theorem head_take (s : ByteArray) : ((s.extract 0 5).toList == [72, 84, 84, 80, 47]) = Lib.hasPrefix s.data.toList [72, 84, 84, 80, 47] := by
  rw [Lib.extract_toList, ← take_prefix]; rfl
theorem min_zero {b : Int} (h : b = 48) : min (b - 48) 1 = 0 := by omega
end Go.Proofs.YtcgjpkkhebpdfaaDoor

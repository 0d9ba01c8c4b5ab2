/- Texts packed for one claim, 29 of 35: Field. -/
import Derived.Test.YtimcmiokabbkfaaDoorFramingOneQ4
import Derived.Test.YtimcmiokabbkfaaDoorFramingOneQ3
import Derived.Test.YtimcmiokabbkfaaDoorFramingOneQ16
set_option linter.unusedSimpArgs false
set_option linter.unusedVariables false
-- Field
namespace Go.Proofs.YtimcmiokabbkfaaDoor
open Go.RowKit
/-- May a field be? -/
def fieldR (n v : ByteArray) : Bool := tokL n.data.toList && (valL v.data.toList && (trimB v).toList == v.toList)
/-- A field's line. -/
def flineB (n v : ByteArray) : ByteArray := if v.size = 0 then n ++ ⟨#[58]⟩ else n ++ ⟨#[58, 32]⟩ ++ v
theorem empty_list2 (s : ByteArray) : s.toList.isEmpty = decide (s.size = 0) := by
  rw [isEmpty_list, Bool.eq_iff_iff, decide_eq_true_eq, List.isEmpty_iff]
  constructor
  · intro h
    have : s.data.toList.length = 0 := by rw [h]; rfl
    simpa using this
  · intro h
    apply List.eq_nil_of_length_eq_zero
    simpa using h
theorem flineB_size (n v : ByteArray) : (flineB n v).size ≤ n.size + v.size + 2 := by
  unfold flineB
  split
  · rw [ByteArray.size_append]; show n.size + 1 ≤ _; omega
  · rw [ByteArray.size_append, ByteArray.size_append]; show n.size + 2 + v.size ≤ _; omega
end Go.Proofs.YtimcmiokabbkfaaDoor

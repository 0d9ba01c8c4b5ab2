/- Layer 9: field.Right, field.Line and the reference's: what each answers for every field. -/
import Derived.Test.YtcgjpkkhebpdfaaDoorTrim
import Derived.Test.YtcgjpkkhebpdfaaDoorOctetRef
import Derived.Test.YtcgjpkkhebpdfaaDoorCl
set_option linter.unusedSimpArgs false
set_option linter.unusedVariables false
namespace Go.Proofs.YtcgjpkkhebpdfaaDoor
open Go.RowKit
/-- May a field be? -/
def fieldR (n v : ByteArray) : Bool := tokL n.data.toList && (valL v.data.toList && (trimB v).toList == v.toList)
/-- A field's line. -/
def flineB (n v : ByteArray) : ByteArray := if v.size = 0 then n ++ ⟨#[58]⟩ else n ++ ⟨#[58, 32]⟩ ++ v
theorem empty_list2 (s : ByteArray) : s.toList.isEmpty = decide (s.size = 0) := by
  rw [isEmpty_list, Bool.eq_iff_iff, decide_eq_true_eq, List.isEmpty_iff]
  constructor
  · intro h
    have : s.data.toList.length = 0 := by rw [h]; rfl
    simpa using this
  · intro h
    apply List.eq_nil_of_length_eq_zero
    simpa using h
theorem flineB_size (n v : ByteArray) : (flineB n v).size ≤ n.size + v.size + 2 := by
  unfold flineB
  split
  · rw [ByteArray.size_append]; show n.size + 1 ≤ _; omega
  · rw [ByteArray.size_append, ByteArray.size_append]; show n.size + 2 + v.size ≤ _; omega
set_option maxRecDepth 100000 in
set_option maxHeartbeats 2000000 in
theorem fline_any (n v : ByteArray) (hn : n.size ≤ 1000000000) (hv : v.size ≤ 1000000000) (w : World) : Calls Tryd.prog 26 #[.agg #[.string n, .string v]] w fun e w' => e = .returned (.string (flineB n v)) ∧ Below w.heap.size w w' := by
  obtain ⟨A, hA⟩ : ∃ A, A = n ++ ⟨#[58]⟩ := ⟨_, rfl⟩
  have hAs : A.size = n.size + 1 := by rw [hA, ByteArray.size_append]; rfl
  have a1 : ∀ W : World, (Op.stringOp .add n ⟨#[58]⟩).run Tryd.prog W = .ok (.string A) W := fun W => (run_string_add_sum (P := Tryd.prog) (w := W) n ⟨#[58]⟩ (by show n.size + 1 ≤ _; omega)).trans (by rw [← hA])
  by_cases h0 : v.size = 0
  · have he : v.toList.isEmpty = true := by rw [empty_list2]; exact decide_eq_true h0
    have HR : Hid (flineB n v = A) := by show flineB n v = A; unfold flineB; rw [if_pos h0, hA]
    clear hA hAs hn hv h0
    go_enter Tryd.func26, Tryd.ntmps26
    go_wp2_with fail
    go_ret
    rw [HR.out]
    exact ⟨rfl, (Below.refl _ _).alloc (Nat.le_refl _) _⟩
  · have he : v.toList.isEmpty = false := by rw [empty_list2]; exact decide_eq_false h0
    obtain ⟨B, hB⟩ : ∃ B, B = n ++ ⟨#[58, 32]⟩ := ⟨_, rfl⟩
    have hBs : B.size = n.size + 2 := by rw [hB, ByteArray.size_append]; rfl
    have a2 : ∀ W : World, (Op.stringOp .add n ⟨#[58, 32]⟩).run Tryd.prog W = .ok (.string B) W := fun W => (run_string_add_sum (P := Tryd.prog) (w := W) n ⟨#[58, 32]⟩ (by show n.size + 2 ≤ _; omega)).trans (by rw [← hB])
    have HR : Hid (flineB n v = B ++ v) := by show flineB n v = _; unfold flineB; rw [if_neg h0, hB]
    have a3 := fun (W : World) => run_string_add_sum (P := Tryd.prog) (w := W) B v (by omega)
    clear hA hAs hn hv h0 hB hBs
    go_enter Tryd.func26, Tryd.ntmps26
    go_wp2_with fail
    go_ret
    rw [HR.out]
    exact ⟨rfl, (Below.refl _ _).alloc (Nat.le_refl _) _⟩
end Go.Proofs.YtcgjpkkhebpdfaaDoor

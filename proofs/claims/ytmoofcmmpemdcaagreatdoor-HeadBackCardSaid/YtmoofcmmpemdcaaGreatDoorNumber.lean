/- The reference's Number at base 10, for a text of at most 18 digits: the number, or that it is beyond the greatest. -/
import Derived.Test.YtmoofcmmpemdcaaGreatDoorStart
import Derived.Test.YtmoofcmmpemdcaaGreatDoorDigits
set_option linter.unusedSimpArgs false
set_option linter.unusedVariables false
namespace Go.Proofs.YtmoofcmmpemdcaaGreatDoor
open Go.RowKit
set_option maxRecDepth 100000 in
theorem rvalue02_dig (r : Int) (h0 : 48 ≤ r) (h1 : r ≤ 57) (w : World) : Calls Tryz.prog 154 #[.int .u8 r] w fun e w' => e = .returned (.int .i64 (r - 48)) ∧ w = w' := by
  go_enter Tryz.func154, Tryz.ntmps154
  go_wp2_with fail
  go_ret
  exact ⟨rfl, rfl⟩
/-- Is every octet of a text a digit? -/
def digs (s : ByteArray) : Prop := ∀ k, k < s.size → 48 ≤ bt s k ∧ bt s k ≤ 57
theorem bt_get (s : ByteArray) (k : Nat) (h : k < s.size) : bt s k = ((s[k]'h).toNat : Int) := by unfold bt; rw [dif_pos h]
theorem digV_dig {r : Int} (h : 48 ≤ r) (h' : r ≤ 57) : digV r = r - 48 := by unfold digV; rw [if_pos ⟨h, h'⟩]
theorem numV_step (s : ByteArray) (k : Nat) (h : k < s.size) (hd : digs s) : numV 10 (s.data.toList.take (k + 1)) = numV 10 (s.data.toList.take k) * 10 + (bt s k - 48) := by
  have := hd k h
  rw [take_snoc s k h, numV_snoc, ← bt_get s k h, digV_dig this.1 this.2]
theorem numV_range (s : ByteArray) (hd : digs s) : ∀ k : Nat, k ≤ s.size → 0 ≤ numV 10 (s.data.toList.take k) ∧ numV 10 (s.data.toList.take k) < ((10 ^ k : Nat) : Int)
  | 0, _ => by rw [List.take_zero]; exact ⟨Int.le_refl _, by decide⟩
  | k + 1, h => by
    have h1 := numV_range s hd k (by omega)
    have h2 := hd k (by omega)
    rw [numV_step s k (by omega) hd, Nat.pow_succ]
    omega
theorem numV_small (s : ByteArray) (hd : digs s) (k : Nat) (h : k ≤ s.size) (h17 : k ≤ 17) : 0 ≤ numV 10 (s.data.toList.take k) ∧ numV 10 (s.data.toList.take k) < 100000000000000000 := by
  have h1 := numV_range s hd k h
  have h2 : 10 ^ k ≤ 10 ^ 17 := Nat.pow_le_pow_right (by decide) h17
  have h3 : (10 : Nat) ^ 17 = 100000000000000000 := by decide
  omega
theorem tail_list (s : ByteArray) : (s.extract 1 s.size).data.toList = s.data.toList.drop 1 := by
  rw [Lib.extract_data, List.take_of_length_le (by rw [List.length_drop]; simp)]
theorem tail_size (s : ByteArray) : (s.extract 1 s.size).size = s.size - 1 := by simp
theorem tail_bt (s : ByteArray) (k : Nat) (h : k + 1 < s.size) : bt (s.extract 1 s.size) k = bt s (k + 1) := by
  rw [bt_get _ k (by rw [tail_size]; omega), bt_get s (k + 1) h]
  have h1 : (s.extract 1 s.size).data.toList[k]? = s.data.toList[k + 1]? := by rw [tail_list, List.getElem?_drop, Nat.add_comm]
  rw [List.getElem?_eq_getElem (by rw [tail_list, List.length_drop]; simp; omega), List.getElem?_eq_getElem (by simpa using h)] at h1
  have h2 := Option.some.inj h1
  exact congrArg (fun b : UInt8 => (b.toNat : Int)) h2
theorem tail_digs {s : ByteArray} (hd : digs s) : digs (s.extract 1 s.size) := fun k h => by
  rw [tail_size] at h
  rw [tail_bt s k (by omega)]
  exact hd (k + 1) (by omega)
theorem tail_num {s : ByteArray} (h : 0 < s.size) (h0 : bt s 0 = 48) : numV 10 (s.extract 1 s.size).data.toList = numV 10 s.data.toList := by
  rw [tail_list]
  have hb : ((s[0]'h).toNat : Int) = 48 := by rw [← bt_get s 0 h]; exact h0
  have h1 : s.data.toList = (s[0]'h) :: s.data.toList.drop 1 := by
    have := List.drop_eq_getElem_cons (l := s.data.toList) (i := 0) (by simpa using h)
    rw [List.drop_zero] at this
    exact this
  conv => rhs; rw [h1]
  unfold numV
  rw [List.foldl_cons, hb]
  rfl
theorem take_size (s : ByteArray) : s.data.toList.take s.size = s.data.toList := List.take_of_length_le (by simp)
end Go.Proofs.YtmoofcmmpemdcaaGreatDoor

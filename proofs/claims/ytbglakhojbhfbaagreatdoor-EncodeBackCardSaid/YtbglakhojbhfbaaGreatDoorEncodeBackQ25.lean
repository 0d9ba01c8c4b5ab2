/- Texts packed for one claim, 25 of 49: LsIt. -/
import Derived.Test.YtbglakhojbhfbaaGreatDoorEncodeBackQ6
import Derived.Test.YtbglakhojbhfbaaGreatDoorEncodeBackQ24
import Derived.Test.YtbglakhojbhfbaaGreatDoorEncodeBackQ2
set_option linter.unusedSimpArgs false
set_option linter.unusedVariables false
-- LsIt
namespace Go.Proofs.YtbglakhojbhfbaaGreatDoor
open Go.RowKit Go.Shelf
attribute [local go_sem] Oper.semAt_some
/-- A text that is not too long: what a loop's body is handed. -/
abbrev Tx := { x : ByteArray // x.size ≤ 1000000 }
def pcL (q : Tx) : List UInt8 := q.1.data.toList
theorem blk_kpr {X : Nat → Prop} {T : TypeId} {N Z : Nat} {A B : World} {k : Nat} {cs : Array Value} {ty : TypeId} (h : Blk A k cs ty) (t : KpR X T N Z A B) (hX : ¬ X k) (hT : ty ≠ T ∨ k < N) : Blk B k cs ty := t.keep h hX hT
theorem ext_take (s : ByteArray) (f k : Nat) (hk : k ≤ s.size) : (s.extract f k).data.toList = (s.data.toList.drop f).take (k - f) := by rw [Lib.extract_data]
theorem ext_snoc {s : ByteArray} {f k : Nat} (hf : f ≤ k) (hk : k < s.size) : (s.extract f (k + 1)).data.toList = (s.extract f k).data.toList ++ [s[k]'hk] := by
  rw [Lib.extract_data, Lib.extract_data, show k + 1 - f = k - f + 1 by omega, List.take_add_one, List.getElem?_drop, show f + (k - f) = k by omega, List.getElem?_eq_getElem (by simpa using hk)]
  rfl
theorem ext_self (s : ByteArray) (k : Nat) : (s.extract k k).data.toList = [] := by rw [Lib.extract_data, Nat.sub_self, List.take_zero]
theorem pcs_comma {x : Sc} {a l : List UInt8} (h : x.closed = true) : pcs x a (44 :: l) = a :: pcs x [] l := by rw [pcs, h, Bool.and_true, if_pos (by decide)]
theorem pcs_see {x : Sc} {a l : List UInt8} {c : UInt8} (h : (c == 44) = false ∨ x.closed = false) : pcs x a (c :: l) = pcs (x.see c.toNat) (a ++ [c]) l := by
  rw [pcs, if_neg]
  rcases h with h | h
  · rw [h, Bool.false_and]; decide
  · rw [h, Bool.and_false]; decide
end Go.Proofs.YtbglakhojbhfbaaGreatDoor

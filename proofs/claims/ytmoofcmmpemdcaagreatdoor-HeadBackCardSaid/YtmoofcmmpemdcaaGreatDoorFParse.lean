/- Package field: Parse and Goes, both sides. -/
import Derived.Test.YtmoofcmmpemdcaaGreatDoorOctet
import Derived.Test.YtmoofcmmpemdcaaGreatDoorOctetRef
import Derived.Test.YtmoofcmmpemdcaaGreatDoorTrim
import Derived.Test.YtmoofcmmpemdcaaGreatDoorStart
import Derived.Test.YtmoofcmmpemdcaaGreatDoorFlds
import Derived.Test.YtmoofcmmpemdcaaGreatDoorShelf
set_option linter.unusedSimpArgs false
set_option linter.unusedVariables false
namespace Go.Proofs.YtmoofcmmpemdcaaGreatDoor
open Go.RowKit
/-- What stands ahead of a text's first colon. -/
def preL (l : List UInt8) : List UInt8 := l.takeWhile fun b => b != 58
/-- A field's line read: the field, the error. -/
def fparse (s : ByteArray) : Fd × Int :=
  if (preL s.data.toList).length = s.size then ((⟨#[]⟩, ⟨#[]⟩), 3)
  else if !tokL (preL s.data.toList) then ((⟨#[]⟩, ⟨#[]⟩), 6)
  else if !valL (s.data.toList.drop ((preL s.data.toList).length + 1)) then ((⟨#[]⟩, ⟨#[]⟩), 7)
  else ((⟨(preL s.data.toList).toArray⟩, trimB ⟨(s.data.toList.drop ((preL s.data.toList).length + 1)).toArray⟩), 0)
theorem index_colon : ∀ l : List UInt8, Lib.index l [58] = if (preL l).length = l.length then -1 else ((preL l).length : Int)
  | [] => by simp [Lib.index, preL]
  | b :: l => by
    have ih := index_colon l
    unfold Lib.index
    by_cases h : b = 58
    · subst h
      simp [preL]
    · have e1 : ([58] : List UInt8).isPrefixOf (b :: l) = false := by
        simp [List.isPrefixOf, Ne.symm h]
      have e2 : preL (b :: l) = b :: preL l := by unfold preL; rw [List.takeWhile_cons]; simp [h]
      rw [e1, e2, ih]
      simp only [List.length_cons, Bool.false_eq_true, if_false]
      by_cases h2 : (preL l).length = l.length
      · simp [h2]
      · have h3 : ((((preL l).length : Int) == -1)) = false := by rw [beq_eq_false_iff_ne]; omega
        simp [h2, h3]
theorem preL_le (l : List UInt8) : (preL l).length ≤ l.length := (List.takeWhile_sublist _).length_le
theorem preL_take (l : List UInt8) : l.take (preL l).length = preL l := by
  unfold preL
  exact (List.prefix_iff_eq_take.1 (List.takeWhile_prefix _)).symm
theorem cut_colon (l : List UInt8) : Lib.cut l [58] = if (preL l).length = l.length then (l, [], false) else (preL l, l.drop ((preL l).length + 1), true) := by
  unfold Lib.cut
  rw [index_colon]
  by_cases h : (preL l).length = l.length
  · rw [if_pos h, if_neg (by omega), if_pos h]
  · rw [if_neg h, if_pos (by omega), if_neg h, Int.toNat_natCast, preL_take]
    rfl
theorem mx_below {w w1 : World} {mx : Int} (hm : w.cell? ⟨0, 0, none⟩ = some (.int .i64 mx)) (hb : Below w.heap.size w w1) : w1.cell? ⟨0, 0, none⟩ = some (.int .i64 mx) :=
  (hb.cell (p := ⟨0, 0, none⟩) (World.block_lt_of_cell? w _ hm)).trans hm
/-- strings.Cut at a colon. -/
theorem cut_any (s : ByteArray) {mx : Int} (w : World) (hm : w.cell? ⟨0, 0, none⟩ = some (.int .i64 mx)) (hs : s.size ≤ 1000000) {p q : ByteArray} {f : Bool} (h : Lib.cut s.data.toList [58] = (p.data.toList, q.data.toList, f)) :
    Calls Tryz.prog 248 #[.string s, .string ⟨#[58]⟩] w fun e w' => e = .returned (.tuple #[.string p, .string q, .bool f]) ∧ Below w.heap.size w w' :=
  (Tryz.strings_Cut s ⟨#[58]⟩ mx w (by omega) hm).mono fun e w' ⟨he, n, hw⟩ => ⟨by
    have e1 : (⟨#[58]⟩ : ByteArray).data.toList = [58] := rfl
    rw [he, e1, h], by rw [hw]; exact below_drewN _ _⟩
def fieldZ : Array Value := #[.string ⟨#[]⟩, .string ⟨#[]⟩]
theorem preL_size (s : ByteArray) : (⟨(preL s.data.toList).toArray⟩ : ByteArray).size ≤ s.size := by
  have := preL_le s.data.toList
  show (preL s.data.toList).toArray.size ≤ _
  simpa using this
theorem post_size (s : ByteArray) (k : Nat) : (⟨(s.data.toList.drop k).toArray⟩ : ByteArray).size ≤ s.size := by
  show (s.data.toList.drop k).toArray.size ≤ _
  simp
end Go.Proofs.YtmoofcmmpemdcaaGreatDoor

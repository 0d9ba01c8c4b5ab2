/- Texts packed for one claim, 15 of 49: FParseR. -/
import Derived.Test.YtbglakhojbhfbaaGreatDoorEncodeBackQ9
import Derived.Test.YtbglakhojbhfbaaGreatDoorEncodeBackQ10
import Derived.Test.YtbglakhojbhfbaaGreatDoorEncodeBackQ14
import Derived.IntWalk
set_option linter.unusedSimpArgs false
set_option linter.unusedVariables false
-- FParseR
namespace Go.Proofs.YtbglakhojbhfbaaGreatDoor
open Go.RowKit
theorem colon_at (s : ByteArray) (k : Nat) (hk : k ≤ s.size) (hno : ∀ j, j < k → bt s j ≠ 58) (hat : k = s.size ∨ bt s k = 58) : (preL s.data.toList).length = k := by
  have hget : ∀ (j : Nat) (h : j < s.data.toList.length), ((s.data.toList[j]'h).toNat : Int) = bt s j := by
    intro j h
    have h' : j < s.size := by simpa using h
    rw [bt_get s j h']
    rfl
  have key : ∀ (l : List UInt8) (k : Nat), k ≤ l.length → (∀ j (h : j < l.length), j < k → l[j] ≠ 58) → (k = l.length ∨ ∃ h : k < l.length, l[k] = 58) → (preL l).length = k := by
    intro l
    induction l with
    | nil => intro k hk _ _; simp at hk; subst hk; rfl
    | cons a l ih =>
      intro k hk hno hat
      cases k with
      | zero =>
        rcases hat with h | ⟨h, e⟩
        · simp at h
        · have : a = 58 := e
          subst this
          rfl
      | succ k =>
        have ha : a ≠ 58 := hno 0 (by simp) (by omega)
        have e2 : preL (a :: l) = a :: preL l := by unfold preL; rw [List.takeWhile_cons]; simp [ha]
        rw [e2, List.length_cons, ih k (by simpa using hk) (fun j h hj => hno (j + 1) (by simpa using h) (by omega)) ?_]
        rcases hat with h | ⟨h, e⟩
        · exact Or.inl (by simpa using h)
        · exact Or.inr ⟨by simpa using h, by simpa using e⟩
  have hz : s.data.toList.length = s.size := by simp
  refine key s.data.toList k (by omega) (fun j h hj e => ?_) ?_
  · have := hget j h
    rw [e] at this
    exact hno j hj this.symm
  · rcases hat with h | h
    · exact Or.inl (by omega)
    · by_cases hlt : k < s.size
      · refine Or.inr ⟨by omega, ?_⟩
        have := hget k (by omega)
        rw [h] at this
        apply UInt8.toNat_inj.1
        have e : (58 : UInt8).toNat = 58 := rfl
        omega
      · exact Or.inl (by omega)
theorem pre_extract (s : ByteArray) : s.extract 0 (preL s.data.toList).length = ⟨(preL s.data.toList).toArray⟩ := by
  apply ByteArray.ext
  apply Array.toList_inj.1
  have := preL_take s.data.toList
  simpa using this
theorem post_extract (s : ByteArray) (k : Nat) : s.extract k s.size = ⟨(s.data.toList.drop k).toArray⟩ := by
  apply ByteArray.ext
  apply Array.toList_inj.1
  simp
  rw [List.take_of_length_le (by simp)]
end Go.Proofs.YtbglakhojbhfbaaGreatDoor

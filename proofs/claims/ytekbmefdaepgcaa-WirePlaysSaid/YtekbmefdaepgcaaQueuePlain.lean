/- Plain lists: a row that goes round, what is put into it and what is looked at. No program in sight. -/
namespace Go.Proofs.Ytekbmefdaepgcaa.Ring
variable {α : Type}
/-- The place of the i-th that waits. -/
def at_ (len frm i : Nat) : Nat := if frm + i < len then frm + i else frm + i - len
/-- What waits: n from place frm on, going round. -/
def text (R : List α) (frm n : Nat) : List α := (R.drop frm ++ R.take frm).take n
theorem length_text (R : List α) (frm n : Nat) (hf : frm ≤ R.length) (hn : n ≤ R.length) : (text R frm n).length = n := by
  simp [text]; omega
theorem get_text (R : List α) (frm n i : Nat) (hf : frm ≤ R.length) (hn : n ≤ R.length) (hi : i < n) : (text R frm n)[i]? = R[at_ R.length frm i]? := by
  unfold text at_
  rw [List.getElem?_take_of_lt hi, List.getElem?_append]
  by_cases h : i < R.length - frm
  · rw [if_pos (by simpa using h), if_pos (by omega), List.getElem?_drop]
  · rw [if_neg (by simpa using h), if_neg (by omega), List.length_drop, List.getElem?_take_of_lt (by omega)]
    congr 1
    omega
theorem peek_text (R : List α) (frm n k : Nat) (hf : frm ≤ R.length) (hn : n ≤ R.length) (hk : k ≤ n) :
    (R.take (min (frm + k) R.length)).drop frm ++ R.take (k - (min (frm + k) R.length - frm)) = (text R frm n).take k := by
  unfold text
  rw [List.take_take, Nat.min_eq_left hk, List.take_append, List.length_drop]
  by_cases h : frm + k ≤ R.length
  · rw [Nat.min_eq_left h, show frm + k - frm = k from by omega, show k - k = 0 from by omega, show k - (R.length - frm) = 0 from by omega]
    simp [List.drop_take]
  · rw [Nat.min_eq_right (by omega), List.take_of_length_le (Nat.le_refl _), List.take_of_length_le (l := R.drop frm) (by simp; omega)]
    congr 1
    rw [List.take_take, Nat.min_eq_left (by omega)]
/-- cs laid over L from place off on. -/
def over (L : List α) (off : Nat) (cs : List α) : List α := L.take off ++ (cs ++ L.drop (off + cs.length))
theorem length_over (L : List α) (off : Nat) (cs : List α) (h : off + cs.length ≤ L.length) : (over L off cs).length = L.length := by simp [over]; omega
theorem get_over (L : List α) (off : Nat) (cs : List α) (h : off + cs.length ≤ L.length) (j : Nat) : (over L off cs)[j]? = if off ≤ j ∧ j < off + cs.length then cs[j - off]? else L[j]? := by
  unfold over
  rw [List.getElem?_append]
  have e : (L.take off).length = off := by simp; omega
  rw [e]
  by_cases h1 : j < off
  · rw [if_pos h1, if_neg (by omega), List.getElem?_take_of_lt h1]
  · rw [if_neg h1, List.getElem?_append]
    by_cases h2 : j - off < cs.length
    · rw [if_pos h2, if_pos (by omega)]
    · rw [if_neg h2, if_neg (by omega), List.getElem?_drop]
      congr 1
      omega
/-- The place behind all that waits. -/
theorem at_mod (len frm n : Nat) (hf : frm < len) (hn : n ≤ len) : (frm + n) % len = at_ len frm n := by
  unfold at_
  by_cases h : frm + n < len
  · rw [if_pos h, Nat.mod_eq_of_lt h]
  · rw [if_neg h, Nat.mod_eq_sub_mod (by omega), Nat.mod_eq_of_lt (by omega)]
/-- What put does to the row: first to its end, then from its beginning. -/
theorem put_text (R s : List α) (frm n : Nat) (hf : frm < R.length) (hn : n + s.length ≤ R.length) :
    text (over (over R (at_ R.length frm n) (s.take (R.length - at_ R.length frm n))) 0 (s.drop (R.length - at_ R.length frm n))) frm (n + s.length) = text R frm n ++ s := by
  have ht : at_ R.length frm n ≤ R.length := by unfold at_; split <;> omega
  have h1 : at_ R.length frm n + (s.take (R.length - at_ R.length frm n)).length ≤ R.length := by simp; omega
  have l1 := length_over R (at_ R.length frm n) (s.take (R.length - at_ R.length frm n)) h1
  have h2 : 0 + (s.drop (R.length - at_ R.length frm n)).length ≤ (over R (at_ R.length frm n) (s.take (R.length - at_ R.length frm n))).length := by rw [l1]; simp; omega
  have l2 := length_over _ 0 _ h2
  apply List.ext_getElem?
  intro i
  by_cases hi : i < n + s.length
  · rw [get_text _ _ _ _ (by rw [l2, l1]; omega) (by rw [l2, l1]; omega) hi, get_over _ _ _ h2, get_over _ _ _ h1, l2, l1, List.getElem?_append, length_text R frm n (by omega) (by omega)]
    simp only [List.length_drop, List.length_take, Nat.zero_le, true_and, Nat.zero_add, Nat.sub_zero]
    by_cases hin : i < n
    · rw [if_pos hin, get_text R frm n i (by omega) (by omega) hin, if_neg (by unfold at_; split <;> split <;> omega), if_neg (by unfold at_; split <;> split <;> omega)]
    · rw [if_neg hin]
      by_cases hw : at_ R.length frm i < s.length - (R.length - at_ R.length frm n)
      · rw [if_pos hw, List.getElem?_drop]
        congr 1
        unfold at_ at hw ⊢
        split at hw <;> split at hw <;> (try split) <;> (try split) <;> omega
      · rw [if_neg hw, if_pos (by unfold at_ at hw ⊢; split at hw <;> split at hw <;> (try split) <;> (try split) <;> omega), List.getElem?_take_of_lt (by unfold at_ at hw ⊢; split at hw <;> split at hw <;> (try split) <;> (try split) <;> omega)]
        congr 1
        unfold at_ at hw ⊢
        split at hw <;> split at hw <;> (try split) <;> (try split) <;> omega
  · rw [List.getElem?_eq_none (by rw [length_text _ _ _ (by rw [l2, l1]; omega) (by rw [l2, l1]; omega)]; omega), List.getElem?_eq_none (by rw [List.length_append, length_text R frm n (by omega) (by omega)]; omega)]
/-- What take leaves. -/
theorem take_text (R : List α) (frm n k : Nat) (hf : frm < R.length) (hn : n ≤ R.length) (hk : k ≤ n) : text R (at_ R.length frm k) (n - k) = (text R frm n).drop k := by
  have ha : at_ R.length frm k ≤ R.length := by unfold at_; split <;> omega
  apply List.ext_getElem?
  intro i
  rw [List.getElem?_drop]
  by_cases hi : i < n - k
  · rw [get_text _ _ _ _ ha (by omega) hi, get_text _ _ _ _ (by omega) hn (by omega)]
    congr 1
    unfold at_
    split <;> split <;> (try split) <;> omega
  · rw [List.getElem?_eq_none (by rw [length_text _ _ _ ha (by omega)]; omega), List.getElem?_eq_none (by rw [length_text _ _ _ (by omega) hn]; omega)]
end Go.Proofs.Ytekbmefdaepgcaa.Ring

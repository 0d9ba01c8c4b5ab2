/- Layer 15: a request line, in plain terms: where its spaces stand, its three words, what it comes to. -/
import Derived.Test.YtmoofcmmpemdcaaGreatDoorStartC
import Derived.Test.YtmoofcmmpemdcaaGreatDoorOctetRef
import Derived.Lib.SplitLaws
set_option linter.unusedSimpArgs false
set_option linter.unusedVariables false
namespace Go.Proofs.YtmoofcmmpemdcaaGreatDoor
open Go.RowKit
/-- Where the octet c stands. -/
def posL (c : UInt8) : Nat → List UInt8 → List Nat
  | _, [] => []
  | o, b :: l => if b = c then o :: posL c (o + 1) l else posL c (o + 1) l
theorem posL_cons_eq (c : UInt8) (o : Nat) (l : List UInt8) : posL c o (c :: l) = o :: posL c (o + 1) l := by rw [posL, if_pos rfl]
theorem posL_cons_ne {b c : UInt8} (h : b ≠ c) (o : Nat) (l : List UInt8) : posL c o (b :: l) = posL c (o + 1) l := by rw [posL, if_neg h]
theorem posL_append (c : UInt8) : ∀ (l : List UInt8) (o : Nat) (m : List UInt8), posL c o (l ++ m) = posL c o l ++ posL c (o + l.length) m
  | [], o, m => by simp [posL]
  | b :: l, o, m => by
    by_cases h : b = c
    · subst h
      rw [List.cons_append, posL_cons_eq, posL_cons_eq, posL_append b l (o + 1) m, List.length_cons, List.cons_append, Nat.add_assoc, Nat.add_comm 1]
    · rw [List.cons_append, posL_cons_ne h, posL_cons_ne h, posL_append c l (o + 1) m, List.length_cons, Nat.add_assoc, Nat.add_comm 1]
theorem posL_length (c : UInt8) : ∀ (l : List UInt8) (o : Nat), (posL c o l).length = l.count c
  | [], _ => rfl
  | b :: l, o => by
    by_cases h : b = c
    · subst h; rw [posL_cons_eq, List.length_cons, List.count_cons_self, posL_length b l]
    · rw [posL_cons_ne h, List.count_cons_of_ne (by simpa using h), posL_length c l]
theorem posL_mem (c : UInt8) : ∀ (l : List UInt8) (o k : Nat), k ∈ posL c o l → o ≤ k ∧ k < o + l.length ∧ l[k - o]? = some c
  | [], _, _, h => by simp [posL] at h
  | b :: l, o, k, h => by
    by_cases hb : b = c
    · subst hb
      rw [posL_cons_eq, List.mem_cons] at h
      rcases h with rfl | h
      · simp
      · have h1 := posL_mem b l (o + 1) k h
        refine ⟨by omega, by simp only [List.length_cons]; omega, ?_⟩
        rw [show k - o = (k - (o + 1)) + 1 by omega, List.getElem?_cons_succ]
        exact h1.2.2
    · rw [posL_cons_ne hb] at h
      have h1 := posL_mem c l (o + 1) k h
      refine ⟨by omega, by simp only [List.length_cons]; omega, ?_⟩
      rw [show k - o = (k - (o + 1)) + 1 by omega, List.getElem?_cons_succ]
      exact h1.2.2
/-- The first of them: nothing of it stands ahead. -/
theorem posL_first {c : UInt8} : ∀ {l : List UInt8} {o k : Nat} {r : List Nat}, posL c o l = k :: r → o ≤ k ∧ (∀ j, o + j < k → l[j]? ≠ some c) ∧ l[k - o]? = some c ∧ r = posL c (k + 1) (l.drop (k - o + 1))
  | [], _, _, _, h => by simp [posL] at h
  | b :: l, o, k, r, h => by
    by_cases hb : b = c
    · subst hb
      rw [posL_cons_eq] at h
      obtain ⟨rfl, rfl⟩ := List.cons.inj h
      exact ⟨Nat.le_refl _, fun j hj => by omega, by simp, by simp⟩
    · rw [posL_cons_ne hb] at h
      obtain ⟨h1, h2, h3, h4⟩ := posL_first h
      refine ⟨by omega, fun j hj => ?_, ?_, ?_⟩
      · cases j with
        | zero => simpa using hb
        | succ j => rw [List.getElem?_cons_succ]; exact h2 j (by omega)
      · rw [show k - o = (k - (o + 1)) + 1 by omega, List.getElem?_cons_succ]; exact h3
      · rw [h4, show k - o + 1 = (k - (o + 1) + 1) + 1 by omega, List.drop_succ_cons]
theorem occ_one (l : List UInt8) (c : UInt8) (j : Nat) : Lib.occAt l [c] j = true ↔ l[j]? = some c := by
  unfold Lib.occAt
  rcases Nat.lt_or_ge j l.length with h | h
  · rw [List.drop_eq_getElem_cons h, List.getElem?_eq_getElem h]
    simp only [List.isPrefixOf, Bool.and_true, beq_iff_eq, Option.some.injEq]
    exact ⟨Eq.symm, Eq.symm⟩
  · rw [List.drop_eq_nil_of_le h, List.getElem?_eq_none h]
    simp [List.isPrefixOf]
theorem index_pos {c : UInt8} {l : List UInt8} {k : Nat} {r : List Nat} (h : posL c 0 l = k :: r) : Lib.index l [c] = k := by
  obtain ⟨_, h2, h3, _⟩ := posL_first h
  rw [Nat.sub_zero] at h3
  refine Lib.index_first ?_ ((occ_one l c k).2 h3) fun j hj => ?_
  · rcases Nat.lt_or_ge k l.length with h | h
    · omega
    · rw [List.getElem?_eq_none h] at h3; cases h3
  · rw [Bool.eq_false_iff]
    exact fun h5 => h2 j (by omega) ((occ_one l c j).1 h5)
theorem posL_shift (c : UInt8) : ∀ (l : List UInt8) (o d : Nat), posL c (o + d) l = (posL c o l).map (· + d)
  | [], _, _ => rfl
  | b :: l, o, d => by
    by_cases h : b = c
    · subst h; rw [posL_cons_eq, posL_cons_eq, List.map_cons, show o + d + 1 = (o + 1) + d by omega, posL_shift b l]
    · rw [posL_cons_ne h, posL_cons_ne h, show o + d + 1 = (o + 1) + d by omega, posL_shift c l]
def spS : ByteArray := ⟨#[32]⟩
theorem count_pos (s : ByteArray) : Lib.countB s spS = (posL 32 0 s.data.toList).length := by
  rw [posL_length]; exact Lib.count_one 32 _
theorem split_two {s : ByteArray} {a b : Nat} (h : posL 32 0 s.data.toList = [a, b]) : a < b ∧ b < s.size ∧ Lib.splitB spS 0 2 s = [s.extract 0 a, s.extract (a + 1) b, s.extract (b + 1) s.size] := by
  have h1 := index_pos h
  obtain ⟨_, _, ha3, ha4⟩ := posL_first h
  rw [Nat.sub_zero] at ha3 ha4
  have hal : a < s.size := by
    rcases Nat.lt_or_ge a s.size with h | h
    · exact h
    · rw [List.getElem?_eq_none (by simpa using h)] at ha3; cases ha3
  have hb := posL_mem 32 _ 0 b (by rw [h]; simp)
  have hbl : b < s.size := by have := hb.2.1; simpa using this
  have hab : a < b := by
    have := posL_mem 32 _ (a + 1) b (by rw [← ha4]; simp)
    omega
  refine ⟨hab, hbl, ?_⟩
  have hd : (s.extract (a + 1) s.size).data.toList = s.data.toList.drop (a + 1) := by
    rw [Lib.extract_data, List.take_of_length_le (by rw [List.length_drop]; simp)]
  have h2 : posL 32 0 (s.extract (a + 1) s.size).data.toList = [b - (a + 1)] := by
    have h3 := posL_shift 32 (s.data.toList.drop (a + 1)) 0 (a + 1)
    rw [Nat.zero_add, ← ha4] at h3
    rw [hd]
    match hq : posL 32 0 (s.data.toList.drop (a + 1)), h3 with
    | [x], h3 => simp only [List.map_cons, List.map_nil, List.cons.injEq] at h3; simp; omega
    | [], h3 => simp at h3
    | _ :: _ :: _, h3 => simp at h3
  have h3 := index_pos h2
  rw [Lib.splitB_hit spS 0 1 s a h1, show (1 : Nat) = 0 + 1 from rfl, show s.extract (a + spS.size) s.size = s.extract (a + 1) s.size from rfl, Lib.splitB_hit spS 0 0 _ (b - (a + 1)) h3, Lib.splitB_zero]
  have hz : spS.size = 1 := rfl
  rw [hz, Nat.add_zero, Nat.add_zero]
  simp only [List.cons.injEq, and_true]
  refine ⟨trivial, ?_, ?_⟩
  · rw [ByteArray.extract_extract]; congr 1; omega
  · rw [ByteArray.extract_extract]; simp; congr 1 <;> omega
/-- A request line's method, target and minor version, or the error. -/
def reqRes (s : ByteArray) : (ByteArray × ByteArray × Int) × Int :=
  match posL 32 0 s.data.toList with
  | [a, b] =>
    if tokL (s.extract 0 a).data.toList = false then ((⟨#[]⟩, ⟨#[]⟩, 0), 6)
    else if visL (s.extract (a + 1) b).data.toList = false then ((⟨#[]⟩, ⟨#[]⟩, 0), 11)
    else if (vminor (s.extract (b + 1) s.size)).2 ≠ 0 then ((⟨#[]⟩, ⟨#[]⟩, 0), (vminor (s.extract (b + 1) s.size)).2)
    else ((s.extract 0 a, s.extract (a + 1) b, (vminor (s.extract (b + 1) s.size)).1), 0)
  | _ => ((⟨#[]⟩, ⟨#[]⟩, 0), 3)
end Go.Proofs.YtmoofcmmpemdcaaGreatDoor

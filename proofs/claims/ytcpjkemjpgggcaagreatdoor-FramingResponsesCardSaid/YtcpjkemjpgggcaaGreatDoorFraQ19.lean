/- Texts packed for one claim, 19 of 34: UnfoldP. -/
import Derived.Test.YtcpjkemjpgggcaaGreatDoorFraQ18
import Derived.Test.YtcpjkemjpgggcaaGreatDoorFraQ5
import Derived.Test.YtcpjkemjpgggcaaGreatDoorFraQ9
set_option linter.unusedSimpArgs false
set_option linter.unusedVariables false
-- UnfoldP
namespace Go.Proofs.YtcpjkemjpgggcaaGreatDoor
open Go.RowKit
def joinB (a b : ByteArray) : ByteArray := endB a ++ ⟨#[32]⟩ ++ trimB b
/-- One line more. -/
def ufStep (fold : Int) : Option (List ByteArray) → ByteArray → Option (List ByteArray)
  | none, _ => none
  | some out, line => if goesB line = false then some (out ++ [line]) else if fold = 0 ∨ out = [] then none else some (out.set (out.length - 1) (joinB (out.getD (out.length - 1) ⟨#[]⟩) line))
/-- The lines unfolded. -/
def ufold (fold : Int) (l : List ByteArray) : Option (List ByteArray) := l.foldl (ufStep fold) (some [])
theorem ufold_snoc (fold : Int) (l : List ByteArray) (k : Nat) (h : k < l.length) : ufold fold (l.take (k + 1)) = ufStep fold (ufold fold (l.take k)) l[k] := by
  unfold ufold
  rw [List.take_succ_eq_append_getElem h, List.foldl_append]
  rfl
theorem foldl_none (fold : Int) : ∀ l : List ByteArray, l.foldl (ufStep fold) none = none
  | [] => rfl
  | a :: l => by rw [List.foldl_cons]; exact foldl_none fold l
theorem ufold_none (fold : Int) (l : List ByteArray) (k : Nat) (h : ufold fold (l.take k) = none) : ufold fold l = none := by
  have e : l = l.take k ++ l.drop k := (List.take_append_drop k l).symm
  unfold ufold at h ⊢
  rw [e, List.foldl_append, h]
  exact foldl_none fold _
theorem ufold_len (fold : Int) (l : List ByteArray) : ∀ k, k ≤ l.length → ∀ out, ufold fold (l.take k) = some out → out.length ≤ k ∧ (0 < k → 0 < out.length) := by
  intro k
  induction k with
  | zero => intro _ out h; cases (show some [] = some out from h); exact ⟨Nat.le_refl _, fun h => absurd h (Nat.lt_irrefl _)⟩
  | succ k ih =>
    intro hk out h
    rw [ufold_snoc fold l k (by omega)] at h
    cases ho : ufold fold (l.take k) with
    | none => rw [ho] at h; cases h
    | some o =>
      have hi := ih (by omega) o ho
      rw [ho] at h
      simp only [ufStep] at h
      split at h
      · cases h; rw [List.length_append]; simp only [List.length_singleton]; omega
      · split at h
        · cases h
        · rename_i hne
          cases h
          have : o ≠ [] := fun e => hne (Or.inr e)
          have : 0 < o.length := by cases o with | nil => exact absurd rfl this | cons a t => simp
          rw [List.length_set]
          omega
theorem trimL_length (l : List UInt8) : (trimL l).length ≤ l.length := by
  unfold trimL
  rw [List.length_reverse]
  exact Nat.le_trans (List.dropWhile_sublist _).length_le (by rw [List.length_reverse]; exact (List.dropWhile_sublist _).length_le)
theorem trimB_size (s : ByteArray) : (trimB s).size ≤ s.size := by
  have h1 : (trimL s.data.toList).length ≤ s.data.toList.length := trimL_length _
  show (trimL s.data.toList).toArray.size ≤ _
  simpa using h1
theorem joinB_size (a b : ByteArray) : (joinB a b).size ≤ a.size + b.size + 1 := by
  have h1 := endB_size a
  have h2 := trimB_size b
  unfold joinB
  rw [ByteArray.size_append, ByteArray.size_append]
  have : (⟨#[32]⟩ : ByteArray).size = 1 := rfl
  omega
/-- All the octets of texts. -/
def tot (l : List ByteArray) : Nat := (l.map fun x => x.size).sum
theorem tot_snoc (l : List ByteArray) (x : ByteArray) : tot (l ++ [x]) = tot l + x.size := by unfold tot; simp
theorem tot_cons (l : List ByteArray) (x : ByteArray) : tot (x :: l) = x.size + tot l := by unfold tot; simp
theorem tot_mem {l : List ByteArray} {x : ByteArray} (h : x ∈ l) : x.size ≤ tot l := by
  induction l with
  | nil => cases h
  | cons a l ih =>
    rw [tot_cons]
    rcases List.mem_cons.1 h with rfl | h
    · omega
    · have := ih h; omega
theorem tot_set (y : ByteArray) : ∀ (l : List ByteArray) (i : Nat) (h : i < l.length), tot (l.set i y) + l[i].size = tot l + y.size
  | [], _, h => absurd h (Nat.not_lt_zero _)
  | a :: l, 0, _ => by simp only [List.set_cons_zero, tot_cons, List.getElem_cons_zero]; omega
  | a :: l, i + 1, h => by
    have := tot_set y l i (by simpa using h)
    simp only [List.set_cons_succ, tot_cons, List.getElem_cons_succ]
    omega
theorem tot_take (l : List ByteArray) (k : Nat) : tot (l.take k) ≤ tot l := by
  have h : l = l.take k ++ l.drop k := (List.take_append_drop k l).symm
  have : tot l = tot (l.take k) + tot (l.drop k) := by
    conv => lhs; rw [h]
    unfold tot
    rw [List.map_append, List.sum_append]
  omega
/-- However the lines are joined, all are bounded by all that came. -/
theorem ufold_tot (fold : Int) (l : List ByteArray) : ∀ k, k ≤ l.length → ∀ out, ufold fold (l.take k) = some out → tot out ≤ tot (l.take k) + k := by
  intro k
  induction k with
  | zero => intro _ out h; cases (show some [] = some out from h); exact Nat.zero_le _
  | succ k ih =>
    intro hk out h
    rw [ufold_snoc fold l k (by omega)] at h
    rw [List.take_succ_eq_append_getElem (by omega), tot_snoc]
    cases ho : ufold fold (l.take k) with
    | none => rw [ho] at h; cases h
    | some o =>
      have hi := ih (by omega) o ho
      rw [ho] at h
      simp only [ufStep] at h
      split at h
      · cases h
        rw [tot_snoc]
        omega
      · split at h
        · cases h
        · rename_i hne
          cases h
          have hne' : o ≠ [] := fun e => hne (Or.inr e)
          have h0 : o.length - 1 < o.length := by cases o with | nil => exact absurd rfl hne' | cons a t => simp
          have hl : o.getD (o.length - 1) ⟨#[]⟩ = o[o.length - 1] := by rw [List.getD_eq_getElem?_getD, List.getElem?_eq_getElem h0]; rfl
          have hj := joinB_size (o.getD (o.length - 1) ⟨#[]⟩) l[k]
          have := tot_set (joinB (o.getD (o.length - 1) ⟨#[]⟩) l[k]) o (o.length - 1) h0
          rw [hl] at *
          omega
theorem ufold_le {fold : Int} {l : List ByteArray} {k : Nat} {out : List ByteArray} (hk : k ≤ l.length) (h : ufold fold (l.take k) = some out) {x : ByteArray} (hx : x ∈ out) : x.size ≤ tot l + l.length := by
  have h1 := ufold_tot fold l k hk out h
  have h2 := tot_take l k
  have h3 := tot_mem hx
  omega
end Go.Proofs.YtcpjkemjpgggcaaGreatDoor

/- Texts packed for one claim, 5 of 49: Status StatusAll. -/
import Derived.Test.YtbglakhojbhfbaaGreatDoorEncodeBackQ4
import Derived.Test.YtbglakhojbhfbaaGreatDoorEncodeBackQ3
set_option linter.unusedSimpArgs false
set_option linter.unusedVariables false
-- Status
namespace Go.Proofs.YtbglakhojbhfbaaGreatDoor
open Go.RowKit
def hd8 (s : ByteArray) : ByteArray := s.extract 0 8
def mid3 (s : ByteArray) : ByteArray := s.extract 9 12
def rest13 (s : ByteArray) : ByteArray := s.extract (min 13 s.size) s.size
/-- Has a line the form of a status line? -/
def statForm (s : ByteArray) : Bool := decide (12 ≤ s.size) && (decide (bt s 8 = 32) && ((decide (s.size = 12) || decide (bt s 12 = 32)) && (vform (hd8 s) && (isDg (bt s 9) && (isDg (bt s 10) && isDg (bt s 11))))))
def statRes (s : ByteArray) : (Int × Int × ByteArray) × Int :=
  if statForm s = false then ((0, 0, ⟨#[]⟩), 3)
  else if (vminor (hd8 s)).2 ≠ 0 then ((0, 0, ⟨#[]⟩), (vminor (hd8 s)).2)
  else if numV 10 (mid3 s).data.toList < 100 ∨ 599 < numV 10 (mid3 s).data.toList then ((0, 0, ⟨#[]⟩), 12)
  else if valL (rest13 s).data.toList = false then ((0, 0, ⟨#[]⟩), 7)
  else (((vminor (hd8 s)).1, numV 10 (mid3 s).data.toList, rest13 s), 0)
theorem value13_at {s : ByteArray} (hs : s.size ≤ 9223372036854775807) {x : ByteArray} (hx : x = rest13 s) {p : Bool} (h : valL (rest13 s).data.toList = p) (w : World) : Calls Tryz.prog 41 #[.string x] w fun r w' => r = .returned (.bool p) ∧ Below w.heap.size w w' := by
  subst h hx
  exact value_any (rest13 s) (by unfold rest13; simp; omega) w
def headZ : Array Value := #[.string ⟨#[]⟩, .string ⟨#[]⟩, .int .i64 0, .int .i64 0, .string ⟨#[]⟩, .slice none 0 0]
/-- A head written into the result's block. -/
def headW (w : World) (g : Nat) (k n : Int) (r : ByteArray) : World := (((((w.setCell ⟨g, 0, none⟩ (.string ⟨#[]⟩)).setCell ⟨g, 1, none⟩ (.string ⟨#[]⟩)).setCell ⟨g, 2, none⟩ (.int .i64 k)).setCell ⟨g, 3, none⟩ (.int .i64 n)).setCell ⟨g, 4, none⟩ (.string r)).setCell ⟨g, 5, none⟩ (.slice none 0 0)
theorem headW_blk {w : World} {g : Nat} {t : TypeId} (h : Blk w g headZ t) (k n : Int) (r : ByteArray) : Blk (headW w g k n r) g #[.string ⟨#[]⟩, .string ⟨#[]⟩, .int .i64 k, .int .i64 n, .string r, .slice none 0 0] t :=
  (((((h.set 0 (.string ⟨#[]⟩)).set 1 (.string ⟨#[]⟩)).set 2 (.int .i64 k)).set 3 (.int .i64 n)).set 4 (.string r)).set 5 (.slice none 0 0)
theorem headW_below {w w0 : World} (h : Below w0.heap.size w0 w) (k n : Int) (r : ByteArray) : Below w0.heap.size w0 (headW w w0.heap.size k n r) :=
  (((((h.setCell (Nat.le_refl _) _).setCell (Nat.le_refl _) _).setCell (Nat.le_refl _) _).setCell (Nat.le_refl _) _).setCell (Nat.le_refl _) _).setCell (Nat.le_refl _) _
end Go.Proofs.YtbglakhojbhfbaaGreatDoor

-- StatusAll
namespace Go.Proofs.YtbglakhojbhfbaaGreatDoor
open Go.RowKit
theorem statForm_no {s : ByteArray} (h : s.size < 12) : statForm s = false := by unfold statForm; rw [decide_eq_false (by omega)]; rfl
theorem statForm_eight {s : ByteArray} (h : bt s 8 ≠ 32) : statForm s = false := by unfold statForm; rw [decide_eq_false h]; simp
theorem statForm_twelve {s : ByteArray} (h1 : 13 ≤ s.size) (h : bt s 12 ≠ 32) : statForm s = false := by unfold statForm; rw [decide_eq_false h, decide_eq_false (show ¬ s.size = 12 by omega)]; simp
theorem statForm_version {s : ByteArray} (h : vform (hd8 s) = false) : statForm s = false := by unfold statForm; rw [h]; simp
theorem mid_list (s : ByteArray) (h : 12 ≤ s.size) : (mid3 s).data.toList = [s[9]'(by omega), s[10]'(by omega), s[11]'(by omega)] := by
  unfold mid3
  rw [Lib.extract_data, List.drop_eq_getElem_cons (by simp; omega), List.drop_eq_getElem_cons (by simp; omega), List.drop_eq_getElem_cons (by simp; omega)]
  rfl
theorem digB_bt (s : ByteArray) (k : Nat) (h : k < s.size) : digB 10 (s[k]'h) = isDg (bt s k) := by
  have h1 := bt_get s k h
  have h2 : 0 ≤ bt s k ∧ bt s k ≤ 255 := bt_range s k
  unfold digB
  rw [← h1]
  unfold isDg digV
  rw [Bool.eq_iff_iff, decide_eq_true_eq, decide_eq_true_eq]
  repeat' split
  all_goals omega
theorem statForm_mid {s : ByteArray} (h : 12 ≤ s.size) (h1 : ((mid3 s).data.toList.all (digB 10)) = false) : statForm s = false := by
  rw [mid_list s h] at h1
  simp only [List.all_cons, List.all_nil, digB_bt, Bool.and_true] at h1
  unfold statForm
  rw [h1]
  simp
theorem statForm_yes {s : ByteArray} (h : 12 ≤ s.size) (h8 : bt s 8 = 32) (h12 : s.size = 12 ∨ bt s 12 = 32) (hf : vform (hd8 s) = true) (h1 : ((mid3 s).data.toList.all (digB 10)) = true) : statForm s = true := by
  rw [mid_list s h] at h1
  simp only [List.all_cons, List.all_nil, digB_bt, Bool.and_true] at h1
  unfold statForm
  rw [h1, decide_eq_true h, decide_eq_true h8, hf]
  rcases h12 with h2 | h2
  · rw [decide_eq_true h2]; rfl
  · rw [decide_eq_true h2]; simp
theorem mid_small {s : ByteArray} (h : 12 ≤ s.size) (h1 : ((mid3 s).data.toList.all (digB 10)) = true) : numV 10 (mid3 s).data.toList ≤ 999 := by
  rw [mid_list s h] at h1 ⊢
  simp only [List.all_cons, List.all_nil, Bool.and_true, Bool.and_eq_true, digB, decide_eq_true_eq] at h1
  simp only [numV, List.foldl_cons, List.foldl_nil]
  omega
theorem mid_res {s : ByteArray} (h : 12 ≤ s.size) : numRes (mid3 s).data.toList 10 999 = if (mid3 s).data.toList.all (digB 10) = true then (numV 10 (mid3 s).data.toList, 0) else (0, 3) := by
  have he : (mid3 s).data.toList.isEmpty = false := by rw [mid_list s h]; rfl
  unfold numRes
  rw [he]
  cases h1 : (mid3 s).data.toList.all (digB 10)
  · rfl
  · have := mid_small h h1
    simp [this]
theorem statRes_form {s : ByteArray} (h : statForm s = false) : statRes s = ((0, 0, ⟨#[]⟩), 3) := by unfold statRes; rw [if_pos h]
theorem statRes_minor {s : ByteArray} {k f : Int} (h : statForm s = true) (hk : vminor (hd8 s) = (k, f)) (hf : f ≠ 0) : statRes s = ((0, 0, ⟨#[]⟩), f) := by unfold statRes; rw [if_neg (by rw [h]; decide), hk, if_pos hf]
theorem statRes_range {s : ByteArray} {k n : Int} (h : statForm s = true) (hk : vminor (hd8 s) = (k, 0)) (hn : numV 10 (mid3 s).data.toList = n) (hr : n < 100 ∨ 599 < n) : statRes s = ((0, 0, ⟨#[]⟩), 12) := by
  unfold statRes; rw [if_neg (by rw [h]; decide), hk, if_neg (by simp), hn, if_pos hr]
theorem statRes_value {s : ByteArray} {k n : Int} (h : statForm s = true) (hk : vminor (hd8 s) = (k, 0)) (hn : numV 10 (mid3 s).data.toList = n) (hr : 100 ≤ n) (hr' : n ≤ 599) (hv : valL (rest13 s).data.toList = false) : statRes s = ((0, 0, ⟨#[]⟩), 7) := by
  unfold statRes; rw [if_neg (by rw [h]; decide), hk, if_neg (by simp), hn, if_neg (by omega), if_pos hv]
theorem statRes_ok {s : ByteArray} {k n : Int} (h : statForm s = true) (hk : vminor (hd8 s) = (k, 0)) (hn : numV 10 (mid3 s).data.toList = n) (hr : 100 ≤ n) (hr' : n ≤ 599) (hv : valL (rest13 s).data.toList = true) : statRes s = ((k, n, rest13 s), 0) := by
  unfold statRes; rw [if_neg (by rw [h]; decide), hk, if_neg (by simp), hn, if_neg (by omega), if_neg (by rw [hv]; decide)]
end Go.Proofs.YtbglakhojbhfbaaGreatDoor

/- Layer 15: Status: what it answers for every text of at most 1000 octets: the paths joined. -/
import Derived.Test.YtmoofcmmpemdcaaGreatDoorStatus
set_option linter.unusedSimpArgs false
set_option linter.unusedVariables false
namespace Go.Proofs.YtmoofcmmpemdcaaGreatDoor
open Go.RowKit
theorem statForm_no {s : ByteArray} (h : s.size < 12) : statForm s = false := by unfold statForm; rw [decide_eq_false (by omega)]; rfl
theorem statForm_eight {s : ByteArray} (h : bt s 8 ≠ 32) : statForm s = false := by unfold statForm; rw [decide_eq_false h]; simp
theorem statForm_twelve {s : ByteArray} (h1 : 13 ≤ s.size) (h : bt s 12 ≠ 32) : statForm s = false := by unfold statForm; rw [decide_eq_false h, decide_eq_false (show ¬ s.size = 12 by omega)]; simp
theorem statForm_version {s : ByteArray} (h : vform (hd8 s) = false) : statForm s = false := by unfold statForm; rw [h]; simp
theorem mid_list (s : ByteArray) (h : 12 ≤ s.size) : (mid3 s).data.toList = [s[9]'(by omega), s[10]'(by omega), s[11]'(by omega)] := by
  unfold mid3
  rw [Lib.extract_data, List.drop_eq_getElem_cons (by simp; omega), List.drop_eq_getElem_cons (by simp; omega), List.drop_eq_getElem_cons (by simp; omega)]
  rfl
theorem digB_bt (s : ByteArray) (k : Nat) (h : k < s.size) : digB 10 (s[k]'h) = isDg (bt s k) := by
  have h1 := bt_get s k h
  have h2 : 0 ≤ bt s k ∧ bt s k ≤ 255 := bt_range s k
  unfold digB
  rw [← h1]
  unfold isDg digV
  rw [Bool.eq_iff_iff, decide_eq_true_eq, decide_eq_true_eq]
  repeat' split
  all_goals omega
theorem statForm_mid {s : ByteArray} (h : 12 ≤ s.size) (h1 : ((mid3 s).data.toList.all (digB 10)) = false) : statForm s = false := by
  rw [mid_list s h] at h1
  simp only [List.all_cons, List.all_nil, digB_bt, Bool.and_true] at h1
  unfold statForm
  rw [h1]
  simp
theorem statForm_yes {s : ByteArray} (h : 12 ≤ s.size) (h8 : bt s 8 = 32) (h12 : s.size = 12 ∨ bt s 12 = 32) (hf : vform (hd8 s) = true) (h1 : ((mid3 s).data.toList.all (digB 10)) = true) : statForm s = true := by
  rw [mid_list s h] at h1
  simp only [List.all_cons, List.all_nil, digB_bt, Bool.and_true] at h1
  unfold statForm
  rw [h1, decide_eq_true h, decide_eq_true h8, hf]
  rcases h12 with h2 | h2
  · rw [decide_eq_true h2]; rfl
  · rw [decide_eq_true h2]; simp
theorem mid_small {s : ByteArray} (h : 12 ≤ s.size) (h1 : ((mid3 s).data.toList.all (digB 10)) = true) : numV 10 (mid3 s).data.toList ≤ 999 := by
  rw [mid_list s h] at h1 ⊢
  simp only [List.all_cons, List.all_nil, Bool.and_true, Bool.and_eq_true, digB, decide_eq_true_eq] at h1
  simp only [numV, List.foldl_cons, List.foldl_nil]
  omega
theorem mid_res {s : ByteArray} (h : 12 ≤ s.size) : numRes (mid3 s).data.toList 10 999 = if (mid3 s).data.toList.all (digB 10) = true then (numV 10 (mid3 s).data.toList, 0) else (0, 3) := by
  have he : (mid3 s).data.toList.isEmpty = false := by rw [mid_list s h]; rfl
  unfold numRes
  rw [he]
  cases h1 : (mid3 s).data.toList.all (digB 10)
  · rfl
  · have := mid_small h h1
    simp [this]
theorem statRes_form {s : ByteArray} (h : statForm s = false) : statRes s = ((0, 0, ⟨#[]⟩), 3) := by unfold statRes; rw [if_pos h]
theorem statRes_minor {s : ByteArray} {k f : Int} (h : statForm s = true) (hk : vminor (hd8 s) = (k, f)) (hf : f ≠ 0) : statRes s = ((0, 0, ⟨#[]⟩), f) := by unfold statRes; rw [if_neg (by rw [h]; decide), hk, if_pos hf]
theorem statRes_range {s : ByteArray} {k n : Int} (h : statForm s = true) (hk : vminor (hd8 s) = (k, 0)) (hn : numV 10 (mid3 s).data.toList = n) (hr : n < 100 ∨ 599 < n) : statRes s = ((0, 0, ⟨#[]⟩), 12) := by
  unfold statRes; rw [if_neg (by rw [h]; decide), hk, if_neg (by simp), hn, if_pos hr]
theorem statRes_value {s : ByteArray} {k n : Int} (h : statForm s = true) (hk : vminor (hd8 s) = (k, 0)) (hn : numV 10 (mid3 s).data.toList = n) (hr : 100 ≤ n) (hr' : n ≤ 599) (hv : valL (rest13 s).data.toList = false) : statRes s = ((0, 0, ⟨#[]⟩), 7) := by
  unfold statRes; rw [if_neg (by rw [h]; decide), hk, if_neg (by simp), hn, if_neg (by omega), if_pos hv]
theorem statRes_ok {s : ByteArray} {k n : Int} (h : statForm s = true) (hk : vminor (hd8 s) = (k, 0)) (hn : numV 10 (mid3 s).data.toList = n) (hr : 100 ≤ n) (hr' : n ≤ 599) (hv : valL (rest13 s).data.toList = true) : statRes s = ((k, n, rest13 s), 0) := by
  unfold statRes; rw [if_neg (by rw [h]; decide), hk, if_neg (by simp), hn, if_neg (by omega), if_neg (by rw [hv]; decide)]
theorem status_any (s : ByteArray) (hs : s.size ≤ 100000) {k n e : Int} {r : ByteArray} (hr : statRes s = ((k, n, r), e)) (w : World) :
    Calls Tryz.prog 212 #[.string s] w fun o w' => o = .returned (.tuple #[.agg #[.string ⟨#[]⟩, .string ⟨#[]⟩, .int .i64 k, .int .i64 n, .string r, .slice none 0 0], .int .i64 e]) ∧ Below w.heap.size w w' := by
  have form : statForm s = false → (0 = k ∧ 0 = n ∧ ⟨#[]⟩ = r) ∧ 3 = e := fun h => by
    rw [statRes_form h] at hr
    simpa using hr
  by_cases hA : s.size < 12
  · obtain ⟨⟨rfl, rfl, rfl⟩, rfl⟩ := form (statForm_no hA)
    exact status_A s hs w hA
  by_cases h8 : bt s 8 = 32
  rotate_left
  · obtain ⟨⟨rfl, rfl, rfl⟩, rfl⟩ := form (statForm_eight h8)
    exact status_B s hs w (by omega) h8
  by_cases hC : s.size = 12 ∨ bt s 12 = 32
  rotate_left
  · have h1 : s.size ≠ 12 := fun h => hC (.inl h)
    have h2 : bt s 12 ≠ 32 := fun h => hC (.inr h)
    obtain ⟨⟨rfl, rfl, rfl⟩, rfl⟩ := form (statForm_twelve (by omega) h2)
    exact status_C s hs w (by omega) h8 h2
  have hC' : s.size = 12 ∨ (13 ≤ s.size ∧ bt s 12 = 32) := by
    rcases hC with h | h
    · exact .inl h
    · rcases (by omega : s.size = 12 ∨ 13 ≤ s.size) with h1 | h1
      · exact .inl h1
      · exact .inr ⟨h1, h⟩
  cases hf : vform (hd8 s)
  · obtain ⟨⟨rfl, rfl, rfl⟩, rfl⟩ := form (statForm_version hf)
    rcases hC' with h | ⟨h, h'⟩
    · exact status_D12 s hs w h h8 hf
    · exact status_D13 s hs w h h8 h' hf
  have hm := mid_res (s := s) (by omega)
  cases hd : (mid3 s).data.toList.all (digB 10)
  · rw [hd, if_neg (by decide)] at hm
    obtain ⟨⟨rfl, rfl, rfl⟩, rfl⟩ := form (statForm_mid (by omega) hd)
    rcases hC' with h | ⟨h, h'⟩
    · exact status_E12 s hs w h h8 hf hm (by decide)
    · exact status_E13 s hs w h h8 h' hf hm (by decide)
  rw [hd, if_pos rfl] at hm
  have hy := statForm_yes (by omega) h8 hC hf hd
  obtain ⟨a, ha⟩ : ∃ a, numV 10 (mid3 s).data.toList = a := ⟨_, rfl⟩
  rw [ha] at hm
  obtain ⟨k', f, hk⟩ : ∃ k' f, vminor (hd8 s) = (k', f) := ⟨_, _, rfl⟩
  by_cases hf0 : f = 0
  rotate_left
  · rw [statRes_minor hy hk hf0] at hr
    obtain ⟨⟨rfl, rfl, rfl⟩, rfl⟩ : (0 = k ∧ 0 = n ∧ ⟨#[]⟩ = r) ∧ f = e := by simpa using hr
    rcases hC' with h | ⟨h, h'⟩
    · exact status_F12 s hs w h h8 hf hm hk hf0
    · exact status_F13 s hs w h h8 h' hf hm hk hf0
  subst hf0
  by_cases hlo : a < 100
  · rw [statRes_range hy hk ha (.inl hlo)] at hr
    obtain ⟨⟨rfl, rfl, rfl⟩, rfl⟩ : (0 = k ∧ 0 = n ∧ ⟨#[]⟩ = r) ∧ 12 = e := by simpa using hr
    rcases hC' with h | ⟨h, h'⟩
    · exact status_G12 s hs w h h8 hf hm hk hlo
    · exact status_G13 s hs w h h8 h' hf hm hk hlo
  by_cases hhi : 599 < a
  · rw [statRes_range hy hk ha (.inr hhi)] at hr
    obtain ⟨⟨rfl, rfl, rfl⟩, rfl⟩ : (0 = k ∧ 0 = n ∧ ⟨#[]⟩ = r) ∧ 12 = e := by simpa using hr
    rcases hC' with h | ⟨h, h'⟩
    · exact status_H12 s hs w h h8 hf hm hk hhi
    · exact status_H13 s hs w h h8 h' hf hm hk hhi
  cases hv : valL (rest13 s).data.toList
  · rw [statRes_value hy hk ha (by omega) (by omega) hv] at hr
    obtain ⟨⟨rfl, rfl, rfl⟩, rfl⟩ : (0 = k ∧ 0 = n ∧ ⟨#[]⟩ = r) ∧ 7 = e := by simpa using hr
    rcases hC' with h | ⟨h, h'⟩
    · exact status_I12 s hs w h h8 hf hm hk (by omega) (by omega) hv
    · exact status_I13 s hs w h h8 h' hf hm hk (by omega) (by omega) hv
  · rw [statRes_ok hy hk ha (by omega) (by omega) hv] at hr
    obtain ⟨⟨rfl, rfl, rfl⟩, rfl⟩ : (k' = k ∧ a = n ∧ rest13 s = r) ∧ 0 = e := by simpa using hr
    rcases hC' with h | ⟨h, h'⟩
    · exact status_J12 s hs w h h8 hf hm hk (by omega) (by omega) hv
    · exact status_J13 s hs w h h8 h' hf hm hk (by omega) (by omega) hv
end Go.Proofs.YtmoofcmmpemdcaaGreatDoor

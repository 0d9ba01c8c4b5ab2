/- Texts packed for one claim, 11 of 49: Goes. -/
import Derived.Test.YtbglakhojbhfbaaGreatDoorEncodeBackQ9
import Derived.Test.YtbglakhojbhfbaaGreatDoorEncodeBackQ10
import Derived.Shelf.Strings.SlTrimAscii
import Derived.IntWalk
set_option linter.unusedSimpArgs false
set_option linter.unusedVariables false
-- Goes
namespace Go.Proofs.YtbglakhojbhfbaaGreatDoor
open Go.RowKit
/-- Does a line go on from the one ahead? -/
def goesB (s : ByteArray) : Bool := match s.data.toList with
  | [] => false
  | b :: _ => b == 32 || b == 9
/-- A text without the blanks and tabs at its end. -/
def endB (s : ByteArray) : ByteArray := ⟨(Lib.trimRightS s.data.toList [32, 9]).toArray⟩
theorem endB_size (s : ByteArray) : (endB s).size ≤ s.size := by
  have h1 : (Lib.trimRightS s.data.toList [32, 9]).length ≤ s.data.toList.length := by
    unfold Lib.trimRightS
    rw [List.length_reverse]
    refine Nat.le_trans (List.dropWhile_sublist _).length_le ?_
    rw [List.length_reverse]
    exact Nat.le_refl _
  show (Lib.trimRightS s.data.toList [32, 9]).toArray.size ≤ _
  simpa using h1
theorem trimr_any (s : ByteArray) (hs : s.size ≤ 9223372036854775807) (w : World) : Calls Tryz.prog 86 #[.string s, .string ⟨#[32, 9]⟩] w fun e w' => e = .returned (.string (endB s)) ∧ Below w.heap.size w w' :=
  Any.strings_TrimRight_laid Tryz.lays162 (by kernel_rfl) s ⟨#[32, 9]⟩ w hs (by decide) (fun j b h => by
    have e : (⟨#[32, 9]⟩ : ByteArray).data.toList = [32, 9] := rfl
    rw [e] at h
    match j, h with
    | 0, h => simp at h; subst h; decide
    | 1, h => simp at h; subst h; decide)
theorem pre_one (l : List UInt8) (c : UInt8) : Lib.hasPrefix l [c] = (match l with | [] => false | b :: _ => b == c) := by
  cases l with
  | nil => simp [Lib.hasPrefix]
  | cons b l =>
    simp only [Lib.hasPrefix, List.isPrefixOf]
    rw [Bool.and_true, Bool.eq_iff_iff, beq_iff_eq, beq_iff_eq]
    exact eq_comm
set_option maxRecDepth 100000 in
theorem goes_any (s : ByteArray) (w : World) : Calls Tryz.prog 87 #[.string s] w fun e w' => e = .returned (.bool (goesB s)) ∧ w = w' := by
  have h1 := fun W => Tryz.strings_HasPrefix s ⟨#[32]⟩ W
  have h2 := fun W => Tryz.strings_HasPrefix s ⟨#[9]⟩ W
  have e1 : (⟨#[32]⟩ : ByteArray).data.toList = [32] := rfl
  have e2 : (⟨#[9]⟩ : ByteArray).data.toList = [9] := rfl
  rw [e1, pre_one] at h1
  rw [e2, pre_one] at h2
  unfold goesB
  cases hl : s.data.toList with
  | nil =>
    rw [hl] at h1 h2
    have H1 := Lib.hid h1
    have H2 := Lib.hid h2
    clear h1 h2 e1 e2 hl
    go_enter Tryz.func87, Tryz.ntmps87
    go_wp2_with (go_at_call 101; first | (refine (H1.out _).mono ?_; rintro e' w' ⟨rfl, rfl⟩) | (refine (H2.out _).mono ?_; rintro e' w' ⟨rfl, rfl⟩))
    go_ret
    exact ⟨rfl, rfl⟩
  | cons b l =>
    rw [hl] at h1 h2
    dsimp only at h1 h2
    obtain ⟨p, hp⟩ : ∃ p, p = (b == 32) := ⟨_, rfl⟩
    obtain ⟨q, hq⟩ : ∃ q, q = (b == 9) := ⟨_, rfl⟩
    rw [← hp] at h1
    rw [← hq] at h2
    have HV : Hid ((b == 32 || b == 9) = (p || q)) := by show _ = _; rw [hp, hq]
    have H1 := Lib.hid h1
    have H2 := Lib.hid h2
    clear h1 h2 e1 e2 hl hp hq
    cases p
    · go_enter Tryz.func87, Tryz.ntmps87
      go_wp2_with (go_at_call 101; first | (refine (H1.out _).mono ?_; rintro e' w' ⟨rfl, rfl⟩) | (refine (H2.out _).mono ?_; rintro e' w' ⟨rfl, rfl⟩))
      go_ret
      dsimp only
      rw [HV.out]
      exact ⟨rfl, rfl⟩
    · go_enter Tryz.func87, Tryz.ntmps87
      go_wp2_with (go_at_call 101; first | (refine (H1.out _).mono ?_; rintro e' w' ⟨rfl, rfl⟩) | (refine (H2.out _).mono ?_; rintro e' w' ⟨rfl, rfl⟩))
      go_ret
      dsimp only
      rw [HV.out]
      exact ⟨rfl, rfl⟩
theorem goes_bt (s : ByteArray) (h : 0 < s.size) : goesB s = (decide (bt s 0 = 32) || decide (bt s 0 = 9)) := by
  have hz : 0 < s.data.toList.length := by simpa using h
  have hb : bt s 0 = ((s.data.toList[0]'hz).toNat : Int) := by rw [bt_get s 0 h]; rfl
  unfold goesB
  cases hl : s.data.toList with
  | nil => rw [hl] at hz; simp at hz
  | cons b l =>
    have : s.data.toList[0]'hz = b := by simp [hl]
    rw [this] at hb
    dsimp only
    rw [hb]
    congr 1
    · rw [Bool.eq_iff_iff, beq_iff_eq, decide_eq_true_iff, ← UInt8.toNat_inj]
      have : (32 : UInt8).toNat = 32 := rfl
      omega
    · rw [Bool.eq_iff_iff, beq_iff_eq, decide_eq_true_iff, ← UInt8.toNat_inj]
      have : (9 : UInt8).toNat = 9 := rfl
      omega
theorem trimR_snoc (l : List UInt8) (b : UInt8) : Lib.trimRightS (l ++ [b]) [32, 9] = if b = 32 ∨ b = 9 then Lib.trimRightS l [32, 9] else l ++ [b] := by
  unfold Lib.trimRightS
  rw [List.reverse_append]
  show (List.dropWhile _ (b :: l.reverse)).reverse = _
  rw [List.dropWhile_cons]
  by_cases h : b = 32 ∨ b = 9
  · have : ([32, 9] : List UInt8).contains b = true := by simpa using h
    rw [if_pos this, if_pos h]
  · have : ([32, 9] : List UInt8).contains b = false := by simpa using h
    rw [if_neg (by rw [this]; simp), if_neg h, List.reverse_cons, List.reverse_reverse]
theorem snoc_of (s : ByteArray) (h : 0 < s.size) : ∃ (b : UInt8), s.data.toList = (s.extract 0 (s.size - 1)).data.toList ++ [b] ∧ bt s (s.size - 1) = (b.toNat : Int) := by
  have hz : s.data.toList.length = s.size := by simp
  have hlt : s.size - 1 < s.data.toList.length := by omega
  refine ⟨s.data.toList[s.size - 1]'hlt, ?_, ?_⟩
  · have e : (s.extract 0 (s.size - 1)).data.toList = s.data.toList.take (s.size - 1) := by
      rw [ByteArray.data_extract, Array.toList_extract]
      simp [List.extract_eq_take_drop]
    rw [e, ← List.take_succ_eq_append_getElem hlt, List.take_of_length_le (by omega)]
  · rw [bt_get s _ (by omega)]
    rfl
theorem endB_step (s : ByteArray) (h : 0 < s.size) (hb : bt s (s.size - 1) = 32 ∨ bt s (s.size - 1) = 9) : endB (s.extract 0 (s.size - 1)) = endB s := by
  obtain ⟨b, e1, e2⟩ := snoc_of s h
  unfold endB
  rw [e1, trimR_snoc, if_pos]
  rw [e2] at hb
  have h1 : (32 : UInt8).toNat = 32 := rfl
  have h2 : (9 : UInt8).toNat = 9 := rfl
  rcases hb with hb | hb
  · left; apply UInt8.toNat_inj.1; omega
  · right; apply UInt8.toNat_inj.1; omega
theorem endB_stop (s : ByteArray) (hb : s.size = 0 ∨ (bt s (s.size - 1) ≠ 32 ∧ bt s (s.size - 1) ≠ 9)) : endB s = s := by
  by_cases h : 0 < s.size
  · obtain ⟨b, e1, e2⟩ := snoc_of s h
    have hb := hb.resolve_left (by omega)
    rw [e2] at hb
    unfold endB
    rw [e1, trimR_snoc, if_neg, ← e1]
    rintro (rfl | rfl)
    · exact hb.1 rfl
    · exact hb.2 rfl
  · have : s.data.toList = [] := List.eq_nil_of_length_eq_zero (by simpa using (by omega : s.size = 0))
    unfold endB
    rw [this]
    apply ByteArray.ext
    apply Array.toList_inj.1
    rw [this]
    rfl
end Go.Proofs.YtbglakhojbhfbaaGreatDoor

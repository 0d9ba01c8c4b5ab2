/- Package field: goes, end; both sides. -/
import Derived.Test.YtmoofcmmpemdcaaGreatDoorFParse
import Derived.Test.YtmoofcmmpemdcaaGreatDoorCl
import Derived.Shelf.Strings.SlTrimAscii
import Derived.IntWalk
set_option linter.unusedSimpArgs false
set_option linter.unusedVariables false
namespace Go.Proofs.YtmoofcmmpemdcaaGreatDoor
open Go.RowKit
/-- Does a line go on from the one ahead? -/
def goesB (s : ByteArray) : Bool := match s.data.toList with
  | [] => false
  | b :: _ => b == 32 || b == 9
/-- A text without the blanks and tabs at its end. -/
def endB (s : ByteArray) : ByteArray := ⟨(Lib.trimRightS s.data.toList [32, 9]).toArray⟩
theorem endB_size (s : ByteArray) : (endB s).size ≤ s.size := by
  have h1 : (Lib.trimRightS s.data.toList [32, 9]).length ≤ s.data.toList.length := by
    unfold Lib.trimRightS
    rw [List.length_reverse]
    refine Nat.le_trans (List.dropWhile_sublist _).length_le ?_
    rw [List.length_reverse]
    exact Nat.le_refl _
  show (Lib.trimRightS s.data.toList [32, 9]).toArray.size ≤ _
  simpa using h1
theorem trimr_any (s : ByteArray) (hs : s.size ≤ 9223372036854775807) (w : World) : Calls Tryz.prog 246 #[.string s, .string ⟨#[32, 9]⟩] w fun e w' => e = .returned (.string (endB s)) ∧ Below w.heap.size w w' :=
  Any.strings_TrimRight_laid Tryz.lays162 (by kernel_rfl) s ⟨#[32, 9]⟩ w hs (by decide) (fun j b h => by
    have e : (⟨#[32, 9]⟩ : ByteArray).data.toList = [32, 9] := rfl
    rw [e] at h
    match j, h with
    | 0, h => simp at h; subst h; decide
    | 1, h => simp at h; subst h; decide)
theorem pre_one (l : List UInt8) (c : UInt8) : Lib.hasPrefix l [c] = (match l with | [] => false | b :: _ => b == c) := by
  cases l with
  | nil => simp [Lib.hasPrefix]
  | cons b l =>
    simp only [Lib.hasPrefix, List.isPrefixOf]
    rw [Bool.and_true, Bool.eq_iff_iff, beq_iff_eq, beq_iff_eq]
    exact eq_comm
set_option maxRecDepth 100000 in
theorem goes_any (s : ByteArray) (w : World) : Calls Tryz.prog 247 #[.string s] w fun e w' => e = .returned (.bool (goesB s)) ∧ w = w' := by
  have h1 := fun W => Tryz.strings_HasPrefix s ⟨#[32]⟩ W
  have h2 := fun W => Tryz.strings_HasPrefix s ⟨#[9]⟩ W
  have e1 : (⟨#[32]⟩ : ByteArray).data.toList = [32] := rfl
  have e2 : (⟨#[9]⟩ : ByteArray).data.toList = [9] := rfl
  rw [e1, pre_one] at h1
  rw [e2, pre_one] at h2
  unfold goesB
  cases hl : s.data.toList with
  | nil =>
    rw [hl] at h1 h2
    have H1 := Lib.hid h1
    have H2 := Lib.hid h2
    clear h1 h2 e1 e2 hl
    go_enter Tryz.func247, Tryz.ntmps247
    go_wp2_with (go_at_call 208; first | (refine (H1.out _).mono ?_; rintro e' w' ⟨rfl, rfl⟩) | (refine (H2.out _).mono ?_; rintro e' w' ⟨rfl, rfl⟩))
    go_ret
    exact ⟨rfl, rfl⟩
  | cons b l =>
    rw [hl] at h1 h2
    dsimp only at h1 h2
    obtain ⟨p, hp⟩ : ∃ p, p = (b == 32) := ⟨_, rfl⟩
    obtain ⟨q, hq⟩ : ∃ q, q = (b == 9) := ⟨_, rfl⟩
    rw [← hp] at h1
    rw [← hq] at h2
    have HV : Hid ((b == 32 || b == 9) = (p || q)) := by show _ = _; rw [hp, hq]
    have H1 := Lib.hid h1
    have H2 := Lib.hid h2
    clear h1 h2 e1 e2 hl hp hq
    cases p
    · go_enter Tryz.func247, Tryz.ntmps247
      go_wp2_with (go_at_call 208; first | (refine (H1.out _).mono ?_; rintro e' w' ⟨rfl, rfl⟩) | (refine (H2.out _).mono ?_; rintro e' w' ⟨rfl, rfl⟩))
      go_ret
      dsimp only
      rw [HV.out]
      exact ⟨rfl, rfl⟩
    · go_enter Tryz.func247, Tryz.ntmps247
      go_wp2_with (go_at_call 208; first | (refine (H1.out _).mono ?_; rintro e' w' ⟨rfl, rfl⟩) | (refine (H2.out _).mono ?_; rintro e' w' ⟨rfl, rfl⟩))
      go_ret
      dsimp only
      rw [HV.out]
      exact ⟨rfl, rfl⟩
theorem goes_bt (s : ByteArray) (h : 0 < s.size) : goesB s = (decide (bt s 0 = 32) || decide (bt s 0 = 9)) := by
  have hz : 0 < s.data.toList.length := by simpa using h
  have hb : bt s 0 = ((s.data.toList[0]'hz).toNat : Int) := by rw [bt_get s 0 h]; rfl
  unfold goesB
  cases hl : s.data.toList with
  | nil => rw [hl] at hz; simp at hz
  | cons b l =>
    have : s.data.toList[0]'hz = b := by simp [hl]
    rw [this] at hb
    dsimp only
    rw [hb]
    congr 1
    · rw [Bool.eq_iff_iff, beq_iff_eq, decide_eq_true_iff, ← UInt8.toNat_inj]
      have : (32 : UInt8).toNat = 32 := rfl
      omega
    · rw [Bool.eq_iff_iff, beq_iff_eq, decide_eq_true_iff, ← UInt8.toNat_inj]
      have : (9 : UInt8).toNat = 9 := rfl
      omega
set_option maxRecDepth 100000 in
theorem rgoes_any (s : ByteArray) (hs : s.size ≤ 1000000) (w : World) : Calls Tryz.prog 204 #[.string s] w fun e w' => e = .returned (.bool (goesB s)) ∧ w = w' := by
  by_cases h0 : s.size = 0
  · have HV : Hid (goesB s = false) := by
      show goesB s = false
      unfold goesB
      have : s.data.toList = [] := List.eq_nil_of_length_eq_zero (by simpa using h0)
      rw [this]
    have hz : decide ((0 : Int) < (s.size : Int)) = false := by simp [h0]
    have hz2 : decide (0 < s.size) = false := by simp [h0]
    have hz3 : ¬ 0 < s.size := by omega
    clear h0
    go_enter Tryz.func204, Tryz.ntmps204
    go_wp2_with fail
    go_ret
    rw [HV.out]
    exact ⟨rfl, rfl⟩
  · have hp : 0 < s.size := by omega
    have hix : ∀ W : World, (Instr.index 9 (.string s) (.int .i64 0)).run Tryz.prog W = .ok (.int .u8 (bt s 0)) W := index_bt s 0 hp
    have HV := Lib.hid (goes_bt s hp)
    obtain ⟨b, hb⟩ : ∃ b, b = bt s 0 := ⟨_, rfl⟩
    rw [← hb] at hix HV
    have hpi : (0 : Int) < (s.size : Int) := by omega
    clear h0 hb
    by_cases h1 : b = 32
    · subst h1
      go_enter Tryz.func204, Tryz.ntmps204
      go_wp2_with fail
      go_ret
      rw [HV.out]
      exact ⟨rfl, rfl⟩
    · have g1 : (b == 32) = false := by rw [beq_eq_false_iff_ne]; exact h1
      have HE : Hid (goesB s = (b == 9)) := by
        show goesB s = _
        rw [HV.out, decide_eq_false h1]
        rfl
      clear h1 HV
      cases g2 : (b == 9)
      · have HF := HE.out
        rw [g2] at HF
        have HF := Lib.hid HF
        clear HE
        go_enter Tryz.func204, Tryz.ntmps204
        go_wp2_with fail
        go_ret
        rw [HF.out]
        exact ⟨rfl, rfl⟩
      · have HF := HE.out
        rw [g2] at HF
        have HF := Lib.hid HF
        clear HE
        go_enter Tryz.func204, Tryz.ntmps204
        go_wp2_with fail
        go_ret
        rw [HF.out]
        exact ⟨rfl, rfl⟩
theorem trimR_snoc (l : List UInt8) (b : UInt8) : Lib.trimRightS (l ++ [b]) [32, 9] = if b = 32 ∨ b = 9 then Lib.trimRightS l [32, 9] else l ++ [b] := by
  unfold Lib.trimRightS
  rw [List.reverse_append]
  show (List.dropWhile _ (b :: l.reverse)).reverse = _
  rw [List.dropWhile_cons]
  by_cases h : b = 32 ∨ b = 9
  · have : ([32, 9] : List UInt8).contains b = true := by simpa using h
    rw [if_pos this, if_pos h]
  · have : ([32, 9] : List UInt8).contains b = false := by simpa using h
    rw [if_neg (by rw [this]; simp), if_neg h, List.reverse_cons, List.reverse_reverse]
theorem snoc_of (s : ByteArray) (h : 0 < s.size) : ∃ (b : UInt8), s.data.toList = (s.extract 0 (s.size - 1)).data.toList ++ [b] ∧ bt s (s.size - 1) = (b.toNat : Int) := by
  have hz : s.data.toList.length = s.size := by simp
  have hlt : s.size - 1 < s.data.toList.length := by omega
  refine ⟨s.data.toList[s.size - 1]'hlt, ?_, ?_⟩
  · have e : (s.extract 0 (s.size - 1)).data.toList = s.data.toList.take (s.size - 1) := by
      rw [ByteArray.data_extract, Array.toList_extract]
      simp [List.extract_eq_take_drop]
    rw [e, ← List.take_succ_eq_append_getElem hlt, List.take_of_length_le (by omega)]
  · rw [bt_get s _ (by omega)]
    rfl
theorem endB_step (s : ByteArray) (h : 0 < s.size) (hb : bt s (s.size - 1) = 32 ∨ bt s (s.size - 1) = 9) : endB (s.extract 0 (s.size - 1)) = endB s := by
  obtain ⟨b, e1, e2⟩ := snoc_of s h
  unfold endB
  rw [e1, trimR_snoc, if_pos]
  rw [e2] at hb
  have h1 : (32 : UInt8).toNat = 32 := rfl
  have h2 : (9 : UInt8).toNat = 9 := rfl
  rcases hb with hb | hb
  · left; apply UInt8.toNat_inj.1; omega
  · right; apply UInt8.toNat_inj.1; omega
theorem endB_stop (s : ByteArray) (hb : s.size = 0 ∨ (bt s (s.size - 1) ≠ 32 ∧ bt s (s.size - 1) ≠ 9)) : endB s = s := by
  by_cases h : 0 < s.size
  · obtain ⟨b, e1, e2⟩ := snoc_of s h
    have hb := hb.resolve_left (by omega)
    rw [e2] at hb
    unfold endB
    rw [e1, trimR_snoc, if_neg, ← e1]
    rintro (rfl | rfl)
    · exact hb.1 rfl
    · exact hb.2 rfl
  · have : s.data.toList = [] := List.eq_nil_of_length_eq_zero (by simpa using (by omega : s.size = 0))
    unfold endB
    rw [this]
    apply ByteArray.ext
    apply Array.toList_inj.1
    rw [this]
    rfl
set_option maxRecDepth 100000 in
theorem rend_any (s : ByteArray) (hs : s.size ≤ 1000000) (w : World) : Calls Tryz.prog 205 #[.string s] w fun e w' => e = .returned (.string (endB s)) ∧ w = w' := by
  obtain ⟨E, hE⟩ : ∃ E, E = endB s := ⟨_, rfl⟩
  have HE := Lib.hid hE
  rw [← hE]
  clear hE
  go_enter Tryz.func205, Tryz.ntmps205
  go_wp2_with fail
  go_loop [0] (fun v => ∃ S : ByteArray, v = .string S ∧ S.size ≤ 1000000 ∧ endB S = E) (fun v => match v with | .string S => S.size | _ => 0)
  case atStart => exact ⟨s, rfl, hs, HE.out.symm⟩
  case round =>
    obtain ⟨S, rfl, hS, hSE⟩ := hrel
    have HSE := Lib.hid hSE
    clear hSE
    by_cases h0 : S.size = 0
    · have HX : Hid (E = S) := HSE.out.symm.trans (endB_stop S (Or.inl h0))
      have hz : decide ((0 : Int) < (S.size : Int)) = false := by simp [h0]
      have hz2 : decide (0 < S.size) = false := by simp [h0]
      have hz3 : ¬ 0 < S.size := by omega
      clear h0
      go_wp2_with fail
      go_ret
      rw [HX.out]
      exact ⟨rfl, rfl⟩
    · have hp : 0 < S.size := by omega
      have hpi : (0 : Int) < (S.size : Int) := by omega
      have hSi : (S.size : Int) ≤ 1000000 := by omega
      have hix : ∀ W : World, (Instr.index 9 (.string S) (.int .i64 ((S.size : Int) - 1))).run Tryz.prog W = .ok (.int .u8 (bt S (S.size - 1))) W := fun W => by
        have := index_bt S (S.size - 1) (by omega) W
        rw [show ((S.size - 1 : Nat) : Int) = (S.size : Int) - 1 by omega] at this
        exact this
      have s1 : ∀ W : World, (Instr.slice 9 (.string S) none (some (.int .i64 ((S.size : Int) - 1))) none).run Tryz.prog W = .ok (.string (S.extract 0 (S.size - 1))) W := fun W => by
        rw [run_slice_string_h W 9 S Tryz.underlying9 .i64 ((S.size : Int) - 1) (by omega) (by omega), show ((S.size : Int) - 1).toNat = S.size - 1 by omega]
      have hst := endB_step S hp
      have hsp := endB_stop S
      obtain ⟨R, hR⟩ : ∃ R, R = S.extract 0 (S.size - 1) := ⟨_, rfl⟩
      have hRs : R.size + 1 = S.size := by rw [hR, ByteArray.size_extract]; omega
      obtain ⟨b, hb⟩ : ∃ b, b = bt S (S.size - 1) := ⟨_, rfl⟩
      rw [← hb] at hix hst hsp
      rw [← hR] at s1 hst
      have HST := Lib.hid hst
      have HSP := Lib.hid hsp
      have HRS := Lib.hid hRs
      clear hb hR hst hsp hRs h0
      by_cases h1 : b = 32
      · have HN : Hid (endB R = E) := (HST.out (Or.inl h1)).trans HSE.out
        subst h1
        clear HST HSP
        go_wp2_with fail
        go_round
        case rel => exact ⟨R, rfl, by have := HRS.out; omega, HN.out⟩
        case measure => have := HRS.out; simp; omega
      · have g1 : (b == 32) = false := by rw [beq_eq_false_iff_ne]; exact h1
        by_cases h2 : b = 9
        · have HN : Hid (endB R = E) := (HST.out (Or.inr h2)).trans HSE.out
          subst h2
          clear HST HSP h1
          go_wp2_with fail
          go_round
          case rel => exact ⟨R, rfl, by have := HRS.out; omega, HN.out⟩
          case measure => have := HRS.out; simp; omega
        · have g2 : (b == 9) = false := by rw [beq_eq_false_iff_ne]; exact h2
          have HX : Hid (E = S) := HSE.out.symm.trans (HSP.out (Or.inr ⟨h1, h2⟩))
          clear HST HSP h1 h2 s1
          go_wp2_with fail
          go_ret
          rw [HX.out]
          exact ⟨rfl, rfl⟩
end Go.Proofs.YtmoofcmmpemdcaaGreatDoor

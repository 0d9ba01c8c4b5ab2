/- The reference's Formed and Minor: what each answers, for every text. -/
import Derived.Test.YtmoofcmmpemdcaaGreatDoorStartB
set_option linter.unusedSimpArgs false
set_option linter.unusedVariables false
namespace Go.Proofs.YtmoofcmmpemdcaaGreatDoor
open Go.RowKit
theorem take_prefix (l p : List UInt8) : (l.take p.length == p) = Lib.hasPrefix l p := by
  unfold Lib.hasPrefix
  rw [Bool.eq_iff_iff, beq_iff_eq, List.isPrefixOf_iff_prefix, List.prefix_iff_eq_take]
  exact ⟨Eq.symm, Eq.symm⟩
theorem head_take (s : ByteArray) : ((s.extract 0 5).toList == [72, 84, 84, 80, 47]) = Lib.hasPrefix s.data.toList [72, 84, 84, 80, 47] := by
  rw [Lib.extract_toList, ← take_prefix]; rfl
theorem min_zero {b : Int} (h : b = 48) : min (b - 48) 1 = 0 := by omega
set_option maxRecDepth 100000 in
set_option maxHeartbeats 8000000 in
theorem rformed_any (s : ByteArray) (hs : s.size ≤ 9223372036854775807) (w : World) : Calls Tryz.prog 160 #[.string s] w fun e w' => e = .returned (.bool (vform s)) ∧ w = w' := by
  by_cases h8 : s.size = 8
  · obtain ⟨p, hp⟩ : ∃ p, Lib.hasPrefix s.data.toList [72, 84, 84, 80, 47] = p := ⟨_, rfl⟩
    obtain ⟨d, hd⟩ : ∃ d, isDg (bt s 5) = d := ⟨_, rfl⟩
    obtain ⟨e, he⟩ : ∃ e, decide (bt s 6 = 46) = e := ⟨_, rfl⟩
    obtain ⟨f, hf⟩ : ∃ f, isDg (bt s 7) = f := ⟨_, rfl⟩
    have HV := Lib.hid (formed_of s h8 hp hd he hf)
    have hpx : ((s.extract 0 5).toList == [72, 84, 84, 80, 47]) = p := (head_take s).trans hp
    have i5 : ∀ W : World, (Instr.index 9 (.string s) (.int .i64 5)).run Tryz.prog W = .ok (.int .u8 (bt s 5)) W := index_bt s 5 (by omega)
    have i6 : ∀ W : World, (Instr.index 9 (.string s) (.int .i64 6)).run Tryz.prog W = .ok (.int .u8 (bt s 6)) W := index_bt s 6 (by omega)
    have i7 : ∀ W : World, (Instr.index 9 (.string s) (.int .i64 7)).run Tryz.prog W = .ok (.int .u8 (bt s 7)) W := index_bt s 7 (by omega)
    have r5 := Lib.hid (bt_range s 5)
    have r7 := Lib.hid (bt_range s 7)
    obtain ⟨b5, hb5⟩ : ∃ b, b = bt s 5 := ⟨_, rfl⟩
    obtain ⟨b6, hb6⟩ : ∃ b, b = bt s 6 := ⟨_, rfl⟩
    obtain ⟨b7, hb7⟩ : ∃ b, b = bt s 7 := ⟨_, rfl⟩
    rw [← hb5] at i5 hd r5
    rw [← hb6] at i6 he
    rw [← hb7] at i7 hf r7
    have he' : (b6 == 46) = e := he
    have HD := Lib.hid hd
    have HF := Lib.hid hf
    clear hp hd hf hb5 hb6 hb7
    have h8i : (s.size : Int) = 8 := by omega
    have h5 : p = false ∨ (p = true ∧ d = false) ∨ (p = true ∧ d = true ∧ e = false) ∨ (p = true ∧ d = true ∧ e = true ∧ f = false) ∨ (p = true ∧ d = true ∧ e = true ∧ f = true) := by cases p <;> cases d <;> cases e <;> cases f <;> simp
    rcases h5 with rfl | ⟨rfl, rfl⟩ | ⟨rfl, rfl, rfl⟩ | ⟨rfl, rfl, rfl, rfl⟩ | ⟨rfl, rfl, rfl, rfl⟩
    rotate_left 3
    · obtain rfl : b6 = 46 := of_decide_eq_true he
      clear he he'
      go_enter Tryz.func160, Tryz.ntmps160
      go_wp2_with (go_at_call 161; first | (refine (rdigit15_at HD.out r5.out _).mono ?_; rintro e' w' ⟨rfl, rfl⟩) | (refine (rdigit15_at HF.out r7.out _).mono ?_; rintro e' w' ⟨rfl, rfl⟩))
      go_ret
      rw [HV.out]
      exact ⟨rfl, rfl⟩
    · obtain rfl : b6 = 46 := of_decide_eq_true he
      clear he he'
      go_enter Tryz.func160, Tryz.ntmps160
      go_wp2_with (go_at_call 161; first | (refine (rdigit15_at HD.out r5.out _).mono ?_; rintro e' w' ⟨rfl, rfl⟩) | (refine (rdigit15_at HF.out r7.out _).mono ?_; rintro e' w' ⟨rfl, rfl⟩))
      go_ret
      rw [HV.out]
      exact ⟨rfl, rfl⟩
    all_goals
      go_enter Tryz.func160, Tryz.ntmps160
      go_wp2_with (go_at_call 161; refine (rdigit15_at HD.out r5.out _).mono ?_; rintro e' w' ⟨rfl, rfl⟩)
      go_ret
      rw [HV.out]
      exact ⟨rfl, rfl⟩
  · have HV := Lib.hid (formed_no s h8)
    have h8i : ¬ ((s.size : Int) = 8) := by omega
    go_enter Tryz.func160, Tryz.ntmps160
    go_wp2_with fail
    go_ret
    rw [HV.out]
    exact ⟨rfl, rfl⟩
theorem rformed_at {s : ByteArray} (hs : s.size ≤ 9223372036854775807) {p : Bool} (h : vform s = p) (w : World) : Calls Tryz.prog 160 #[.string s] w fun e w' => e = .returned (.bool p) ∧ w = w' := by
  subst h
  exact rformed_any s hs w
set_option maxRecDepth 100000 in
set_option maxHeartbeats 4000000 in
theorem rminor_any (s : ByteArray) (hs : s.size ≤ 9223372036854775807) {k e : Int} (hv : vminor s = (k, e)) (w : World) : Calls Tryz.prog 159 #[.string s] w fun r w' => r = .returned (.tuple #[.int .i64 k, .int .i64 e]) ∧ w = w' := by
  have HV := Lib.hid hv
  have HS := Lib.hid hs
  clear hv
  cases hf : vform s
  · have HK : Hid ((0, 3) = (k, e)) := by rw [← HV.out, vminor_form hf]; exact rfl
    have HF := Lib.hid hf
    clear hf
    go_enter Tryz.func159, Tryz.ntmps159
    go_wp2_with (go_at_call 160; refine (rformed_at HS.out HF.out _).mono ?_; rintro e' w' ⟨rfl, rfl⟩)
    go_ret2
    obtain ⟨rfl, rfl⟩ := Prod.mk.inj HK.out
    exact ⟨rfl, rfl⟩
  · have h8 := vform_size hf
    have hr7 := vform_seven hf
    have i5 : ∀ W : World, (Instr.index 9 (.string s) (.int .i64 5)).run Tryz.prog W = .ok (.int .u8 (bt s 5)) W := index_bt s 5 (by omega)
    have i7 : ∀ W : World, (Instr.index 9 (.string s) (.int .i64 7)).run Tryz.prog W = .ok (.int .u8 (bt s 7)) W := index_bt s 7 (by omega)
    obtain ⟨b5, hb5⟩ : ∃ b, b = bt s 5 := ⟨_, rfl⟩
    obtain ⟨b7, hb7⟩ : ∃ b, b = bt s 7 := ⟨_, rfl⟩
    rw [← hb5] at i5
    rw [← hb7] at i7 hr7
    have hlo := hr7.1
    have hhi := hr7.2
    have HF := Lib.hid hf
    have HB5 := Lib.hid hb5
    have HB7 := Lib.hid hb7
    clear hf hb5 hb7 h8 hr7
    by_cases h5 : b5 = 49
    · by_cases h7 : b7 = 48
      · have HK : Hid ((0, 0) = (k, e)) := by rw [← HV.out, vminor_zero HF.out (HB5.out ▸ h5) (HB7.out ▸ h7)]; exact rfl
        subst h5 h7
        go_enter Tryz.func159, Tryz.ntmps159
        go_wp2_with (go_at_call 160; refine (rformed_at HS.out HF.out _).mono ?_; rintro e' w' ⟨rfl, rfl⟩)
        go_ret2
        obtain ⟨rfl, rfl⟩ := Prod.mk.inj HK.out
        exact ⟨rfl, rfl⟩
      · have HK : Hid ((1, 0) = (k, e)) := by rw [← HV.out, vminor_one HF.out (HB5.out ▸ h5) (HB7.out ▸ h7)]; exact rfl
        have h1 : 49 ≤ b7 := by omega
        have hm : Hid (min (b7 - 48) 1 = 1) := by show min (b7 - 48) 1 = 1; omega
        subst h5
        go_enter Tryz.func159, Tryz.ntmps159
        go_wp2_with (go_at_call 160; refine (rformed_at HS.out HF.out _).mono ?_; rintro e' w' ⟨rfl, rfl⟩)
        go_ret2
        obtain ⟨rfl, rfl⟩ := Prod.mk.inj HK.out
        refine ⟨?_, rfl⟩
        show Ending.returned (Value.tuple #[.int .i64 (min (b7 - 48) 1), .int .i64 0]) = _
        rw [hm.out]
    · have HK : Hid ((0, 9) = (k, e)) := by rw [← HV.out, vminor_version HF.out (HB5.out ▸ h5)]; exact rfl
      have h5' : (b5 == 49) = false := by simpa using h5
      go_enter Tryz.func159, Tryz.ntmps159
      go_wp2_with (go_at_call 160; refine (rformed_at HS.out HF.out _).mono ?_; rintro e' w' ⟨rfl, rfl⟩)
      go_ret2
      obtain ⟨rfl, rfl⟩ := Prod.mk.inj HK.out
      exact ⟨rfl, rfl⟩
end Go.Proofs.YtmoofcmmpemdcaaGreatDoor

/- Layer 15: Minor, and the reference's Formed and Minor: what each answers, for every text. -/
import Derived.Test.YtmoofcmmpemdcaaGreatDoorStart
set_option linter.unusedSimpArgs false
set_option linter.unusedVariables false
namespace Go.Proofs.YtmoofcmmpemdcaaGreatDoor
open Go.RowKit
theorem vform_size {s : ByteArray} (h : vform s = true) : s.size = 8 := by
  unfold vform at h
  rw [Bool.and_eq_true, decide_eq_true_eq] at h
  exact h.1
theorem vform_seven {s : ByteArray} (h : vform s = true) : 48 ≤ bt s 7 ∧ bt s 7 ≤ 57 := by
  unfold vform at h
  rw [Bool.and_eq_true, Bool.and_eq_true, Bool.and_eq_true, Bool.and_eq_true] at h
  have := h.2.2.2.2
  unfold isDg at this
  rw [decide_eq_true_eq] at this
  exact this
theorem vminor_form {s : ByteArray} (h : vform s = false) : vminor s = (0, 3) := by unfold vminor; rw [if_pos h]
theorem vminor_version {s : ByteArray} (h : vform s = true) (h5 : bt s 5 ≠ 49) : vminor s = (0, 9) := by unfold vminor; rw [if_neg (by rw [h]; decide), if_neg h5]
theorem vminor_zero {s : ByteArray} (h : vform s = true) (h5 : bt s 5 = 49) (h7 : bt s 7 = 48) : vminor s = (0, 0) := by unfold vminor; rw [if_neg (by rw [h]; decide), if_pos h5, if_pos h7]
theorem vminor_one {s : ByteArray} (h : vform s = true) (h5 : bt s 5 = 49) (h7 : bt s 7 ≠ 48) : vminor s = (1, 0) := by unfold vminor; rw [if_neg (by rw [h]; decide), if_pos h5, if_neg h7]
theorem formed_at {s : ByteArray} (hs : s.size ≤ 9223372036854775807) {p : Bool} (h : vform s = p) (w : World) : Calls Tryz.prog 244 #[.string s] w fun e w' => e = .returned (.bool p) ∧ w = w' := by
  subst h
  exact formed_any s hs w
set_option maxRecDepth 100000 in
set_option maxHeartbeats 4000000 in
theorem minor_any (s : ByteArray) (hs : s.size ≤ 9223372036854775807) {k e : Int} (hv : vminor s = (k, e)) (w : World) : Calls Tryz.prog 243 #[.string s] w fun r w' => r = .returned (.tuple #[.int .i64 k, .int .i64 e]) ∧ w = w' := by
  have HV := Lib.hid hv
  have HS := Lib.hid hs
  clear hv
  cases hf : vform s
  · have HK : Hid ((0, 3) = (k, e)) := by rw [← HV.out, vminor_form hf]; exact rfl
    have HF := Lib.hid hf
    clear hf
    go_enter Tryz.func243, Tryz.ntmps243
    go_wp2_with (go_at_call 244; refine (formed_at HS.out HF.out _).mono ?_; rintro e' w' ⟨rfl, rfl⟩)
    go_ret2
    obtain ⟨rfl, rfl⟩ := Prod.mk.inj HK.out
    exact ⟨rfl, rfl⟩
  · have h8 := vform_size hf
    have hr7 := vform_seven hf
    have i5 : ∀ W : World, (Instr.index 9 (.string s) (.int .i64 5)).run Tryz.prog W = .ok (.int .u8 (bt s 5)) W := index_bt s 5 (by omega)
    have i7 : ∀ W : World, (Instr.index 9 (.string s) (.int .i64 7)).run Tryz.prog W = .ok (.int .u8 (bt s 7)) W := index_bt s 7 (by omega)
    obtain ⟨b5, hb5⟩ : ∃ b, b = bt s 5 := ⟨_, rfl⟩
    obtain ⟨b7, hb7⟩ : ∃ b, b = bt s 7 := ⟨_, rfl⟩
    rw [← hb5] at i5
    rw [← hb7] at i7 hr7
    have HF := Lib.hid hf
    have HB5 := Lib.hid hb5
    have HB7 := Lib.hid hb7
    clear hf hb5 hb7 h8
    by_cases h5 : b5 = 49
    · by_cases h7 : b7 = 48
      · have HK : Hid ((0, 0) = (k, e)) := by rw [← HV.out, vminor_zero HF.out (HB5.out ▸ h5) (HB7.out ▸ h7)]; exact rfl
        subst h5 h7
        go_enter Tryz.func243, Tryz.ntmps243
        go_wp2_with (go_at_call 244; refine (formed_at HS.out HF.out _).mono ?_; rintro e' w' ⟨rfl, rfl⟩)
        go_ret2
        obtain ⟨rfl, rfl⟩ := Prod.mk.inj HK.out
        exact ⟨rfl, rfl⟩
      · have HK : Hid ((1, 0) = (k, e)) := by rw [← HV.out, vminor_one HF.out (HB5.out ▸ h5) (HB7.out ▸ h7)]; exact rfl
        have h7' : (b7 == 48) = false := by simpa using h7
        subst h5
        go_enter Tryz.func243, Tryz.ntmps243
        go_wp2_with (go_at_call 244; refine (formed_at HS.out HF.out _).mono ?_; rintro e' w' ⟨rfl, rfl⟩)
        go_ret2
        obtain ⟨rfl, rfl⟩ := Prod.mk.inj HK.out
        exact ⟨rfl, rfl⟩
    · have HK : Hid ((0, 9) = (k, e)) := by rw [← HV.out, vminor_version HF.out (HB5.out ▸ h5)]; exact rfl
      have h5' : (b5 == 49) = false := by simpa using h5
      go_enter Tryz.func243, Tryz.ntmps243
      go_wp2_with (go_at_call 244; refine (formed_at HS.out HF.out _).mono ?_; rintro e' w' ⟨rfl, rfl⟩)
      go_ret2
      obtain ⟨rfl, rfl⟩ := Prod.mk.inj HK.out
      exact ⟨rfl, rfl⟩
end Go.Proofs.YtmoofcmmpemdcaaGreatDoor

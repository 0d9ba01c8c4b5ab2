/- Layer 15: digit, formed, Minor, Version, and the reference's: what each answers, for every text. -/
import Derived.Test.YtmoofcmmpemdcaaGreatDoorOctet
import Derived.Test.YtmoofcmmpemdcaaGreatDoorShelf
import Derived.Deep.QuietTactic
import Derived.BigQuiet
set_option linter.unusedSimpArgs false
set_option linter.unusedVariables false
namespace Go.Proofs.YtmoofcmmpemdcaaGreatDoor
open Go.RowKit
def isDg (r : Int) : Bool := decide (48 ≤ r ∧ r ≤ 57)
def bt (s : ByteArray) (i : Nat) : Int := if h : i < s.size then ((s[i]'h).toNat : Int) else 0
def headS : ByteArray := ⟨#[72, 84, 84, 80, 47]⟩
/-- Has a text the form of a version? -/
def vform (s : ByteArray) : Bool := decide (s.size = 8) && (Lib.hasPrefix s.data.toList [72, 84, 84, 80, 47] && (isDg (bt s 5) && (decide (bt s 6 = 46) && isDg (bt s 7))))
/-- A version's minor, or the error. -/
def vminor (s : ByteArray) : Int × Int := if vform s = false then (0, 3) else if bt s 5 = 49 then (if bt s 7 = 48 then (0, 0) else (1, 0)) else (0, 9)
theorem bt_range (s : ByteArray) (i : Nat) : 0 ≤ bt s i ∧ bt s i ≤ 255 := by
  unfold bt
  split
  · rename_i h
    have := (s[i]'h).toNat_lt
    omega
  · omega
theorem index_bt (s : ByteArray) (i : Nat) (h : i < s.size) (W : World) : (Instr.index 9 (.string s) (.int .i64 (i : Int))).run Tryz.prog W = .ok (.int .u8 (bt s i)) W := by
  have h1 := run_index_string (P := Tryz.prog) (w := W) 9 s .i64 (i : Int) Tryz.underlying9
  have h2 : 0 ≤ (i : Int) ∧ (i : Int) < s.size := by omega
  rw [dif_pos h2] at h1
  rw [h1]
  unfold bt
  rw [dif_pos h]
  rfl
theorem isDg_false {r : Int} (h : r < 48 ∨ 57 < r) : isDg r = false := by unfold isDg; rw [decide_eq_false_iff_not]; omega
theorem isDg_true {r : Int} (h : 48 ≤ r) (h' : r ≤ 57) : isDg r = true := by unfold isDg; rw [decide_eq_true_eq]; exact ⟨h, h'⟩
set_option maxRecDepth 100000 in
theorem sdigit_any (r : Int) (h0 : 0 ≤ r) (h1 : r ≤ 255) (w : World) : Calls Tryz.prog 264 #[.int .u8 r] w fun e w' => e = .returned (.bool (isDg r)) ∧ w = w' := by
  rcases (by omega : r < 48 ∨ (48 ≤ r ∧ r ≤ 57) ∨ 57 < r) with h | ⟨h, h'⟩ | h
  · have HV := Lib.hid (isDg_false (.inl h))
    go_enter Tryz.func264, Tryz.ntmps264
    go_wp2_with fail
    go_ret
    rw [HV.out]
    exact ⟨rfl, rfl⟩
  · have HV := Lib.hid (isDg_true h h')
    go_enter Tryz.func264, Tryz.ntmps264
    go_wp2_with fail
    go_ret
    rw [HV.out]
    exact ⟨rfl, rfl⟩
  · have HV := Lib.hid (isDg_false (.inr h))
    have hd : decide (r ≤ 57) = false := by rw [decide_eq_false_iff_not]; omega
    go_enter Tryz.func264, Tryz.ntmps264
    go_wp2_with fail
    go_ret
    rw [HV.out]
    exact ⟨rfl, rfl⟩
set_option maxRecDepth 100000 in
theorem rdigit15_any (r : Int) (h0 : 0 ≤ r) (h1 : r ≤ 255) (w : World) : Calls Tryz.prog 161 #[.int .u8 r] w fun e w' => e = .returned (.bool (isDg r)) ∧ w = w' := by
  rcases (by omega : r < 48 ∨ (48 ≤ r ∧ r ≤ 57) ∨ 57 < r) with h | ⟨h, h'⟩ | h
  · have HV := Lib.hid (isDg_false (.inl h))
    go_enter Tryz.func161, Tryz.ntmps161
    go_wp2_with fail
    go_ret
    rw [HV.out]
    exact ⟨rfl, rfl⟩
  · have HV := Lib.hid (isDg_true h h')
    go_enter Tryz.func161, Tryz.ntmps161
    go_wp2_with fail
    go_ret
    rw [HV.out]
    exact ⟨rfl, rfl⟩
  · have HV := Lib.hid (isDg_false (.inr h))
    have hd : decide (r ≤ 57) = false := by rw [decide_eq_false_iff_not]; omega
    go_enter Tryz.func161, Tryz.ntmps161
    go_wp2_with fail
    go_ret
    rw [HV.out]
    exact ⟨rfl, rfl⟩
set_option maxRecDepth 100000 in
theorem sversion_any (n : Int) (w : World) : Calls Tryz.prog 120 #[.int .i64 n] w fun e w' => e = .returned (.string (if n ≤ 0 then ⟨#[72, 84, 84, 80, 47, 49, 46, 48]⟩ else ⟨#[72, 84, 84, 80, 47, 49, 46, 49]⟩)) ∧ w = w' := by
  by_cases h : n ≤ 0
  · go_enter Tryz.func120, Tryz.ntmps120
    go_wp2_with fail
    go_ret
    exact ⟨rfl, rfl⟩
  · have h2 : 0 < n := by omega
    go_enter Tryz.func120, Tryz.ntmps120
    go_wp2_with fail
    go_ret
    exact ⟨rfl, rfl⟩
theorem formed_no (s : ByteArray) (h : s.size ≠ 8) : vform s = false := by unfold vform; rw [decide_eq_false h]; rfl
theorem formed_of (s : ByteArray) (h : s.size = 8) {p d e f : Bool} (hp : Lib.hasPrefix s.data.toList [72, 84, 84, 80, 47] = p) (hd : isDg (bt s 5) = d) (he : decide (bt s 6 = 46) = e) (hf : isDg (bt s 7) = f) : vform s = (p && (d && (e && f))) := by
  unfold vform; rw [decide_eq_true h, hp, hd, he, hf]; rfl
theorem prefix_at (s : ByteArray) {p : Bool} (hp : Lib.hasPrefix s.data.toList [72, 84, 84, 80, 47] = p) (w : World) : Calls Tryz.prog 208 #[.string s, .string ⟨#[72, 84, 84, 80, 47]⟩] w fun e w' => e = .returned (.bool p) ∧ w = w' := by
  subst hp
  exact (Tryz.strings_HasPrefix s ⟨#[72, 84, 84, 80, 47]⟩ w).mono fun _ _ ⟨a, b⟩ => ⟨a, b.symm⟩
theorem sdigit_at {r : Int} {d : Bool} (hd : isDg r = d) (h : 0 ≤ r ∧ r ≤ 255) (w : World) : Calls Tryz.prog 264 #[.int .u8 r] w fun e w' => e = .returned (.bool d) ∧ w = w' := by
  subst hd
  exact sdigit_any r h.1 h.2 w
theorem rdigit15_at {r : Int} {d : Bool} (hd : isDg r = d) (h : 0 ≤ r ∧ r ≤ 255) (w : World) : Calls Tryz.prog 161 #[.int .u8 r] w fun e w' => e = .returned (.bool d) ∧ w = w' := by
  subst hd
  exact rdigit15_any r h.1 h.2 w
set_option maxHeartbeats 8000000 in
set_option maxRecDepth 100000 in
theorem formed_any (s : ByteArray) (hs : s.size ≤ 9223372036854775807) (w : World) : Calls Tryz.prog 244 #[.string s] w fun e w' => e = .returned (.bool (vform s)) ∧ w = w' := by
  by_cases h8 : s.size = 8
  · obtain ⟨p, hp⟩ : ∃ p, Lib.hasPrefix s.data.toList [72, 84, 84, 80, 47] = p := ⟨_, rfl⟩
    obtain ⟨d, hd⟩ : ∃ d, isDg (bt s 5) = d := ⟨_, rfl⟩
    obtain ⟨e, he⟩ : ∃ e, decide (bt s 6 = 46) = e := ⟨_, rfl⟩
    obtain ⟨f, hf⟩ : ∃ f, isDg (bt s 7) = f := ⟨_, rfl⟩
    have HV := Lib.hid (formed_of s h8 hp hd he hf)
    have i5 : ∀ W : World, (Instr.index 9 (.string s) (.int .i64 5)).run Tryz.prog W = .ok (.int .u8 (bt s 5)) W := index_bt s 5 (by omega)
    have i6 : ∀ W : World, (Instr.index 9 (.string s) (.int .i64 6)).run Tryz.prog W = .ok (.int .u8 (bt s 6)) W := index_bt s 6 (by omega)
    have i7 : ∀ W : World, (Instr.index 9 (.string s) (.int .i64 7)).run Tryz.prog W = .ok (.int .u8 (bt s 7)) W := index_bt s 7 (by omega)
    have r5 := Lib.hid (bt_range s 5)
    have r7 := Lib.hid (bt_range s 7)
    obtain ⟨b5, hb5⟩ : ∃ b, b = bt s 5 := ⟨_, rfl⟩
    obtain ⟨b6, hb6⟩ : ∃ b, b = bt s 6 := ⟨_, rfl⟩
    obtain ⟨b7, hb7⟩ : ∃ b, b = bt s 7 := ⟨_, rfl⟩
    rw [← hb5] at i5 hd r5
    rw [← hb6] at i6 he
    rw [← hb7] at i7 hf r7
    have he' : (b6 == 46) = e := he
    have HP := Lib.hid hp
    have HD := Lib.hid hd
    have HF := Lib.hid hf
    clear hp hd hf hb5 hb6 hb7
    have h8i : (s.size : Int) = 8 := by omega
    have h5 : p = false ∨ (p = true ∧ d = false) ∨ (p = true ∧ d = true ∧ e = false) ∨ (p = true ∧ d = true ∧ e = true ∧ f = false) ∨ (p = true ∧ d = true ∧ e = true ∧ f = true) := by cases p <;> cases d <;> cases e <;> cases f <;> simp
    rcases h5 with rfl | ⟨rfl, rfl⟩ | ⟨rfl, rfl, rfl⟩ | ⟨rfl, rfl, rfl, rfl⟩ | ⟨rfl, rfl, rfl, rfl⟩
    all_goals
      go_enter Tryz.func244, Tryz.ntmps244
      go_wp2_with (first
        | (go_at_call 208; refine (prefix_at s HP.out _).mono ?_; rintro e' w' ⟨rfl, rfl⟩)
        | (go_at_call 264; first | (refine (sdigit_at HD.out r5.out _).mono ?_; rintro e' w' ⟨rfl, rfl⟩) | (refine (sdigit_at HF.out r7.out _).mono ?_; rintro e' w' ⟨rfl, rfl⟩)))
      go_ret
      rw [HV.out]
      exact ⟨rfl, rfl⟩
  · have HV := Lib.hid (formed_no s h8)
    have h8i : ¬ ((s.size : Int) = 8) := by omega
    go_enter Tryz.func244, Tryz.ntmps244
    go_wp2_with fail
    go_ret
    rw [HV.out]
    exact ⟨rfl, rfl⟩
end Go.Proofs.YtmoofcmmpemdcaaGreatDoor

/- Package civil: what each function answers. -/
import Derived.Test.YtkcimbjgjamloaaCivil
namespace Go.Proofs.Ytkcimbjgjamloaa
open Go.RowKit Civ
theorem tmod_pos (a b : Int) (h : 0 ≤ a) : a.tmod b = a % b := Int.tmod_eq_emod_of_nonneg h
theorem tdiv_pos (a b : Int) (h : 0 ≤ a) : a.tdiv b = a / b := Int.tdiv_eq_ediv_of_nonneg h
theorem vmod {a b r : Int} (h : 0 ≤ a) (hr : a % b = r) : Value.int .i64 (a.tmod b) = .int .i64 r := by rw [tmod_pos a b h, hr]
theorem vdiv {a b r : Int} (h : 0 ≤ a) (hr : a / b = r) : Value.int .i64 (a.tdiv b) = .int .i64 r := by rw [tdiv_pos a b h, hr]
theorem beq_yes {a b : Int} (h : a = b) : (a == b) = true := by rw [beq_iff_eq]; exact h
theorem bne_no {a b : Int} (h : a = b) : (a != b) = false := by subst h; simp
theorem beq_no {a b : Int} (h : a ≠ b) : (a == b) = false := by rw [beq_eq_false_iff_ne]; exact h
theorem bne_yes {a b : Int} (h : a ≠ b) : (a != b) = true := by rw [bne_iff_ne]; exact h
theorem dec_yes {p : Prop} [Decidable p] (h : p) : decide p = true := decide_eq_true h
theorem dec_no {p : Prop} [Decidable p] (h : ¬ p) : decide p = false := decide_eq_false h
theorem leapB_yes {y : Int} (h : y % 400 = 0 ∨ (y % 4 = 0 ∧ y % 100 ≠ 0)) : leapB y = true := by unfold leapB; exact decide_eq_true h
theorem leapB_no {y : Int} (h : ¬ (y % 400 = 0 ∨ (y % 4 = 0 ∧ y % 100 ≠ 0))) : leapB y = false := by unfold leapB; exact decide_eq_false h
theorem leap_any (y : Int) (h : 0 ≤ y) (w : World) : Calls Try.prog 90 #[.int .i64 y] w fun e w' => e = .returned (.bool (leapB y)) ∧ w = w' := by
  by_cases h400 : y % 400 = 0
  · have h4 : y % 4 = 0 := by omega
    have h100 : y % 100 = 0 := by omega
    have e4 : (y % 4 == 0) = true := beq_yes h4
    have i4 : (y % 4 != 0) = false := bne_no h4
    have d4 : decide (y % 4 = 0) = true := dec_yes h4
    have e100 : (y % 100 == 0) = true := beq_yes h100
    have i100 : (y % 100 != 0) = false := bne_no h100
    have d100 : decide (y % 100 = 0) = true := dec_yes h100
    have e400 : (y % 400 == 0) = true := beq_yes h400
    have i400 : (y % 400 != 0) = false := bne_no h400
    have d400 : decide (y % 400 = 0) = true := dec_yes h400
    have HV := Lib.hid (leapB_yes (y := y) (.inl h400))
    clear h4 h100 h400
    go_enter Try.func90, Try.ntmps90
    go_wp2_with fail
    go_ret
    rw [HV.out]
    exact ⟨rfl, rfl⟩
  by_cases h4 : y % 4 = 0
  · by_cases h100 : y % 100 = 0
    · skip
      have e4 : (y % 4 == 0) = true := beq_yes h4
      have i4 : (y % 4 != 0) = false := bne_no h4
      have d4 : decide (y % 4 = 0) = true := dec_yes h4
      have e100 : (y % 100 == 0) = true := beq_yes h100
      have i100 : (y % 100 != 0) = false := bne_no h100
      have d100 : decide (y % 100 = 0) = true := dec_yes h100
      have e400 : (y % 400 == 0) = false := beq_no h400
      have i400 : (y % 400 != 0) = true := bne_yes h400
      have d400 : decide (y % 400 = 0) = false := dec_no h400
      have HV := Lib.hid (leapB_no (y := y) (by omega))
      clear h4 h100 h400
      go_enter Try.func90, Try.ntmps90
      go_wp2_with fail
      go_ret
      rw [HV.out]
      exact ⟨rfl, rfl⟩
    · skip
      have e4 : (y % 4 == 0) = true := beq_yes h4
      have i4 : (y % 4 != 0) = false := bne_no h4
      have d4 : decide (y % 4 = 0) = true := dec_yes h4
      have e100 : (y % 100 == 0) = false := beq_no h100
      have i100 : (y % 100 != 0) = true := bne_yes h100
      have d100 : decide (y % 100 = 0) = false := dec_no h100
      have e400 : (y % 400 == 0) = false := beq_no h400
      have i400 : (y % 400 != 0) = true := bne_yes h400
      have d400 : decide (y % 400 = 0) = false := dec_no h400
      have HV := Lib.hid (leapB_yes (y := y) (.inr ⟨h4, h100⟩))
      clear h4 h100 h400
      go_enter Try.func90, Try.ntmps90
      go_wp2_with fail
      go_ret
      rw [HV.out]
      exact ⟨rfl, rfl⟩
  · skip
    have e4 : (y % 4 == 0) = false := beq_no h4
    have i4 : (y % 4 != 0) = true := bne_yes h4
    have d4 : decide (y % 4 = 0) = false := dec_no h4
    have e400 : (y % 400 == 0) = false := beq_no h400
    have i400 : (y % 400 != 0) = true := bne_yes h400
    have d400 : decide (y % 400 = 0) = false := dec_no h400
    have HV := Lib.hid (leapB_no (y := y) (by omega))
    clear h4 h400
    go_enter Try.func90, Try.ntmps90
    go_wp2_with fail
    go_ret
    rw [HV.out]
    exact ⟨rfl, rfl⟩
theorem rleap_any (y : Int) (h : 0 ≤ y) (w : World) : Calls Try.prog 97 #[.int .i64 y] w fun e w' => e = .returned (.bool (leapB y)) ∧ w = w' := by
  by_cases h400 : y % 400 = 0
  · have h4 : y % 4 = 0 := by omega
    have h100 : y % 100 = 0 := by omega
    have e4 : (y % 4 == 0) = true := beq_yes h4
    have i4 : (y % 4 != 0) = false := bne_no h4
    have d4 : decide (y % 4 = 0) = true := dec_yes h4
    have e100 : (y % 100 == 0) = true := beq_yes h100
    have i100 : (y % 100 != 0) = false := bne_no h100
    have d100 : decide (y % 100 = 0) = true := dec_yes h100
    have e400 : (y % 400 == 0) = true := beq_yes h400
    have i400 : (y % 400 != 0) = false := bne_no h400
    have d400 : decide (y % 400 = 0) = true := dec_yes h400
    have HV := Lib.hid (leapB_yes (y := y) (.inl h400))
    clear h4 h100 h400
    go_enter Try.func97, Try.ntmps97
    go_wp2_with fail
    go_ret
    rw [HV.out]
    exact ⟨rfl, rfl⟩
  by_cases h4 : y % 4 = 0
  · by_cases h100 : y % 100 = 0
    · skip
      have e4 : (y % 4 == 0) = true := beq_yes h4
      have i4 : (y % 4 != 0) = false := bne_no h4
      have d4 : decide (y % 4 = 0) = true := dec_yes h4
      have e100 : (y % 100 == 0) = true := beq_yes h100
      have i100 : (y % 100 != 0) = false := bne_no h100
      have d100 : decide (y % 100 = 0) = true := dec_yes h100
      have e400 : (y % 400 == 0) = false := beq_no h400
      have i400 : (y % 400 != 0) = true := bne_yes h400
      have d400 : decide (y % 400 = 0) = false := dec_no h400
      have HV := Lib.hid (leapB_no (y := y) (by omega))
      clear h4 h100 h400
      go_enter Try.func97, Try.ntmps97
      go_wp2_with fail
      go_ret
      rw [HV.out]
      exact ⟨rfl, rfl⟩
    · skip
      have e4 : (y % 4 == 0) = true := beq_yes h4
      have i4 : (y % 4 != 0) = false := bne_no h4
      have d4 : decide (y % 4 = 0) = true := dec_yes h4
      have e100 : (y % 100 == 0) = false := beq_no h100
      have i100 : (y % 100 != 0) = true := bne_yes h100
      have d100 : decide (y % 100 = 0) = false := dec_no h100
      have e400 : (y % 400 == 0) = false := beq_no h400
      have i400 : (y % 400 != 0) = true := bne_yes h400
      have d400 : decide (y % 400 = 0) = false := dec_no h400
      have HV := Lib.hid (leapB_yes (y := y) (.inr ⟨h4, h100⟩))
      clear h4 h100 h400
      go_enter Try.func97, Try.ntmps97
      go_wp2_with fail
      go_ret
      rw [HV.out]
      exact ⟨rfl, rfl⟩
  · skip
    have e4 : (y % 4 == 0) = false := beq_no h4
    have i4 : (y % 4 != 0) = true := bne_yes h4
    have d4 : decide (y % 4 = 0) = false := dec_no h4
    have e400 : (y % 400 == 0) = false := beq_no h400
    have i400 : (y % 400 != 0) = true := bne_yes h400
    have d400 : decide (y % 400 = 0) = false := dec_no h400
    have HV := Lib.hid (leapB_no (y := y) (by omega))
    clear h4 h400
    go_enter Try.func97, Try.ntmps97
    go_wp2_with fail
    go_ret
    rw [HV.out]
    exact ⟨rfl, rfl⟩
set_option maxRecDepth 100000 in
set_option maxHeartbeats 2000000 in
theorem rlong_any (y m : Int) (h : 0 ≤ y) (hm1 : 1 ≤ m) (hm2 : m ≤ 12) (w : World) : Calls Try.prog 81 #[.int .i64 y, .int .i64 m] w fun e w' => e = .returned (.int .i64 (longM y m)) ∧ w = w' := by
  have HL := Lib.hid (fun W => rleap_any y h W)
  have hms : m = 1 ∨ m = 2 ∨ m = 3 ∨ m = 4 ∨ m = 5 ∨ m = 6 ∨ m = 7 ∨ m = 8 ∨ m = 9 ∨ m = 10 ∨ m = 11 ∨ m = 12 := by omega
  clear hm1 hm2
  rcases hms with rfl | rfl | rfl | rfl | rfl | rfl | rfl | rfl | rfl | rfl | rfl | rfl
  · have HV : Hid (longM y 1 = 31) := by show longM y 1 = 31; simp [longM]
    clear HL
    go_enter Try.func81, Try.ntmps81
    go_wp2_with fail
    go_ret
    rw [HV.out]
    exact ⟨rfl, rfl⟩
  · cases hl : leapB y
    · have HV : Hid (longM y 2 = 28) := by show longM y 2 = 28; simp [longM, hl]
      rw [hl] at HL
      clear hl
      go_enter Try.func81, Try.ntmps81
      go_wp2_with (first | (go_at_call 97; refine (HL.out _).mono ?_; rintro e' w' ⟨rfl, rfl⟩))
      go_ret
      rw [HV.out]
      exact ⟨rfl, rfl⟩
    · have HV : Hid (longM y 2 = 29) := by show longM y 2 = 29; simp [longM, hl]
      rw [hl] at HL
      clear hl
      go_enter Try.func81, Try.ntmps81
      go_wp2_with (first | (go_at_call 97; refine (HL.out _).mono ?_; rintro e' w' ⟨rfl, rfl⟩))
      go_ret
      rw [HV.out]
      exact ⟨rfl, rfl⟩
  · have HV : Hid (longM y 3 = 31) := by show longM y 3 = 31; simp [longM]
    clear HL
    go_enter Try.func81, Try.ntmps81
    go_wp2_with fail
    go_ret
    rw [HV.out]
    exact ⟨rfl, rfl⟩
  · have HV : Hid (longM y 4 = 30) := by show longM y 4 = 30; simp [longM]
    clear HL
    go_enter Try.func81, Try.ntmps81
    go_wp2_with fail
    go_ret
    rw [HV.out]
    exact ⟨rfl, rfl⟩
  · have HV : Hid (longM y 5 = 31) := by show longM y 5 = 31; simp [longM]
    clear HL
    go_enter Try.func81, Try.ntmps81
    go_wp2_with fail
    go_ret
    rw [HV.out]
    exact ⟨rfl, rfl⟩
  · have HV : Hid (longM y 6 = 30) := by show longM y 6 = 30; simp [longM]
    clear HL
    go_enter Try.func81, Try.ntmps81
    go_wp2_with fail
    go_ret
    rw [HV.out]
    exact ⟨rfl, rfl⟩
  · have HV : Hid (longM y 7 = 31) := by show longM y 7 = 31; simp [longM]
    clear HL
    go_enter Try.func81, Try.ntmps81
    go_wp2_with fail
    go_ret
    rw [HV.out]
    exact ⟨rfl, rfl⟩
  · have HV : Hid (longM y 8 = 31) := by show longM y 8 = 31; simp [longM]
    clear HL
    go_enter Try.func81, Try.ntmps81
    go_wp2_with fail
    go_ret
    rw [HV.out]
    exact ⟨rfl, rfl⟩
  · have HV : Hid (longM y 9 = 30) := by show longM y 9 = 30; simp [longM]
    clear HL
    go_enter Try.func81, Try.ntmps81
    go_wp2_with fail
    go_ret
    rw [HV.out]
    exact ⟨rfl, rfl⟩
  · have HV : Hid (longM y 10 = 31) := by show longM y 10 = 31; simp [longM]
    clear HL
    go_enter Try.func81, Try.ntmps81
    go_wp2_with fail
    go_ret
    rw [HV.out]
    exact ⟨rfl, rfl⟩
  · have HV : Hid (longM y 11 = 30) := by show longM y 11 = 30; simp [longM]
    clear HL
    go_enter Try.func81, Try.ntmps81
    go_wp2_with fail
    go_ret
    rw [HV.out]
    exact ⟨rfl, rfl⟩
  · have HV : Hid (longM y 12 = 31) := by show longM y 12 = 31; simp [longM]
    clear HL
    go_enter Try.func81, Try.ntmps81
    go_wp2_with fail
    go_ret
    rw [HV.out]
    exact ⟨rfl, rfl⟩
theorem lengths_any (w : World) : Calls Try.prog 91 #[] w fun e w' => e = .returned (.agg #[.int .i64 31, .int .i64 28, .int .i64 31, .int .i64 30, .int .i64 31, .int .i64 30, .int .i64 31, .int .i64 31, .int .i64 30, .int .i64 31, .int .i64 30, .int .i64 31]) ∧ Below w.heap.size w w' := by
  go_enter Try.func91, Try.ntmps91
  go_wp2_with fail
  exact bodyPost_ret (results_cell_row Try.results91 _ _ _ _ _ _ _ rfl (heap_alloc_new _ _) Try.underlying126 rfl (by kernel_rfl)) rfl ⟨rfl, (Below.refl _ _).alloc (Nat.le_refl _) _⟩
set_option maxRecDepth 100000 in
set_option maxHeartbeats 2000000 in
theorem long_any (y m : Int) (h : 0 ≤ y) (hm1 : 1 ≤ m) (hm2 : m ≤ 12) (w : World) : Calls Try.prog 72 #[.int .i64 y, .int .i64 m] w fun e w' => e = .returned (.int .i64 (longM y m)) ∧ Below w.heap.size w w' := by
  have HL := Lib.hid (fun W => leap_any y h W)
  have hms : m = 1 ∨ m = 2 ∨ m = 3 ∨ m = 4 ∨ m = 5 ∨ m = 6 ∨ m = 7 ∨ m = 8 ∨ m = 9 ∨ m = 10 ∨ m = 11 ∨ m = 12 := by omega
  clear hm1 hm2
  rcases hms with rfl | rfl | rfl | rfl | rfl | rfl | rfl | rfl | rfl | rfl | rfl | rfl
  · have HV : Hid (longM y 1 = 31) := by show longM y 1 = 31; simp [longM]
    clear HL
    have hix : ∀ W : World, (Instr.index 126 (.agg #[.int .i64 31, .int .i64 28, .int .i64 31, .int .i64 30, .int .i64 31, .int .i64 30, .int .i64 31, .int .i64 31, .int .i64 30, .int .i64 31, .int .i64 30, .int .i64 31]) (.int .i64 0)).run Try.prog W = .ok (.int .i64 31) W := fun W => by kernel_rfl
    go_enter Try.func72, Try.ntmps72
    go_wp2_with (go_at_call 91; refine (lengths_any _).mono ?_; rintro e' w' ⟨rfl, hb⟩; have HB := Lib.hid hb; clear hb)
    go_ret
    rw [HV.out]
    exact ⟨rfl, HB.out⟩
  · cases hl : leapB y
    · have HV : Hid (longM y 2 = 28) := by show longM y 2 = 28; simp [longM, hl]
      rw [hl] at HL
      clear hl
      have hix : ∀ W : World, (Instr.index 126 (.agg #[.int .i64 31, .int .i64 28, .int .i64 31, .int .i64 30, .int .i64 31, .int .i64 30, .int .i64 31, .int .i64 31, .int .i64 30, .int .i64 31, .int .i64 30, .int .i64 31]) (.int .i64 1)).run Try.prog W = .ok (.int .i64 28) W := fun W => by kernel_rfl
      go_enter Try.func72, Try.ntmps72
      go_wp2_with (first | (go_at_call 90; refine (HL.out _).mono ?_; rintro e' w' ⟨rfl, rfl⟩) | (go_at_call 91; refine (lengths_any _).mono ?_; rintro e' w' ⟨rfl, hb⟩; have HB := Lib.hid hb; clear hb))
      go_ret
      rw [HV.out]
      exact ⟨rfl, HB.out⟩
    · have HV : Hid (longM y 2 = 29) := by show longM y 2 = 29; simp [longM, hl]
      rw [hl] at HL
      clear hl
      have hix : ∀ W : World, (Instr.index 126 (.agg #[.int .i64 31, .int .i64 28, .int .i64 31, .int .i64 30, .int .i64 31, .int .i64 30, .int .i64 31, .int .i64 31, .int .i64 30, .int .i64 31, .int .i64 30, .int .i64 31]) (.int .i64 1)).run Try.prog W = .ok (.int .i64 28) W := fun W => by kernel_rfl
      go_enter Try.func72, Try.ntmps72
      go_wp2_with (first | (go_at_call 90; refine (HL.out _).mono ?_; rintro e' w' ⟨rfl, rfl⟩) | (go_at_call 91; refine (lengths_any _).mono ?_; rintro e' w' ⟨rfl, hb⟩; have HB := Lib.hid hb; clear hb))
      go_ret
      rw [HV.out]
      exact ⟨rfl, Below.refl _ _⟩
  · have HV : Hid (longM y 3 = 31) := by show longM y 3 = 31; simp [longM]
    clear HL
    have hix : ∀ W : World, (Instr.index 126 (.agg #[.int .i64 31, .int .i64 28, .int .i64 31, .int .i64 30, .int .i64 31, .int .i64 30, .int .i64 31, .int .i64 31, .int .i64 30, .int .i64 31, .int .i64 30, .int .i64 31]) (.int .i64 2)).run Try.prog W = .ok (.int .i64 31) W := fun W => by kernel_rfl
    go_enter Try.func72, Try.ntmps72
    go_wp2_with (go_at_call 91; refine (lengths_any _).mono ?_; rintro e' w' ⟨rfl, hb⟩; have HB := Lib.hid hb; clear hb)
    go_ret
    rw [HV.out]
    exact ⟨rfl, HB.out⟩
  · have HV : Hid (longM y 4 = 30) := by show longM y 4 = 30; simp [longM]
    clear HL
    have hix : ∀ W : World, (Instr.index 126 (.agg #[.int .i64 31, .int .i64 28, .int .i64 31, .int .i64 30, .int .i64 31, .int .i64 30, .int .i64 31, .int .i64 31, .int .i64 30, .int .i64 31, .int .i64 30, .int .i64 31]) (.int .i64 3)).run Try.prog W = .ok (.int .i64 30) W := fun W => by kernel_rfl
    go_enter Try.func72, Try.ntmps72
    go_wp2_with (go_at_call 91; refine (lengths_any _).mono ?_; rintro e' w' ⟨rfl, hb⟩; have HB := Lib.hid hb; clear hb)
    go_ret
    rw [HV.out]
    exact ⟨rfl, HB.out⟩
  · have HV : Hid (longM y 5 = 31) := by show longM y 5 = 31; simp [longM]
    clear HL
    have hix : ∀ W : World, (Instr.index 126 (.agg #[.int .i64 31, .int .i64 28, .int .i64 31, .int .i64 30, .int .i64 31, .int .i64 30, .int .i64 31, .int .i64 31, .int .i64 30, .int .i64 31, .int .i64 30, .int .i64 31]) (.int .i64 4)).run Try.prog W = .ok (.int .i64 31) W := fun W => by kernel_rfl
    go_enter Try.func72, Try.ntmps72
    go_wp2_with (go_at_call 91; refine (lengths_any _).mono ?_; rintro e' w' ⟨rfl, hb⟩; have HB := Lib.hid hb; clear hb)
    go_ret
    rw [HV.out]
    exact ⟨rfl, HB.out⟩
  · have HV : Hid (longM y 6 = 30) := by show longM y 6 = 30; simp [longM]
    clear HL
    have hix : ∀ W : World, (Instr.index 126 (.agg #[.int .i64 31, .int .i64 28, .int .i64 31, .int .i64 30, .int .i64 31, .int .i64 30, .int .i64 31, .int .i64 31, .int .i64 30, .int .i64 31, .int .i64 30, .int .i64 31]) (.int .i64 5)).run Try.prog W = .ok (.int .i64 30) W := fun W => by kernel_rfl
    go_enter Try.func72, Try.ntmps72
    go_wp2_with (go_at_call 91; refine (lengths_any _).mono ?_; rintro e' w' ⟨rfl, hb⟩; have HB := Lib.hid hb; clear hb)
    go_ret
    rw [HV.out]
    exact ⟨rfl, HB.out⟩
  · have HV : Hid (longM y 7 = 31) := by show longM y 7 = 31; simp [longM]
    clear HL
    have hix : ∀ W : World, (Instr.index 126 (.agg #[.int .i64 31, .int .i64 28, .int .i64 31, .int .i64 30, .int .i64 31, .int .i64 30, .int .i64 31, .int .i64 31, .int .i64 30, .int .i64 31, .int .i64 30, .int .i64 31]) (.int .i64 6)).run Try.prog W = .ok (.int .i64 31) W := fun W => by kernel_rfl
    go_enter Try.func72, Try.ntmps72
    go_wp2_with (go_at_call 91; refine (lengths_any _).mono ?_; rintro e' w' ⟨rfl, hb⟩; have HB := Lib.hid hb; clear hb)
    go_ret
    rw [HV.out]
    exact ⟨rfl, HB.out⟩
  · have HV : Hid (longM y 8 = 31) := by show longM y 8 = 31; simp [longM]
    clear HL
    have hix : ∀ W : World, (Instr.index 126 (.agg #[.int .i64 31, .int .i64 28, .int .i64 31, .int .i64 30, .int .i64 31, .int .i64 30, .int .i64 31, .int .i64 31, .int .i64 30, .int .i64 31, .int .i64 30, .int .i64 31]) (.int .i64 7)).run Try.prog W = .ok (.int .i64 31) W := fun W => by kernel_rfl
    go_enter Try.func72, Try.ntmps72
    go_wp2_with (go_at_call 91; refine (lengths_any _).mono ?_; rintro e' w' ⟨rfl, hb⟩; have HB := Lib.hid hb; clear hb)
    go_ret
    rw [HV.out]
    exact ⟨rfl, HB.out⟩
  · have HV : Hid (longM y 9 = 30) := by show longM y 9 = 30; simp [longM]
    clear HL
    have hix : ∀ W : World, (Instr.index 126 (.agg #[.int .i64 31, .int .i64 28, .int .i64 31, .int .i64 30, .int .i64 31, .int .i64 30, .int .i64 31, .int .i64 31, .int .i64 30, .int .i64 31, .int .i64 30, .int .i64 31]) (.int .i64 8)).run Try.prog W = .ok (.int .i64 30) W := fun W => by kernel_rfl
    go_enter Try.func72, Try.ntmps72
    go_wp2_with (go_at_call 91; refine (lengths_any _).mono ?_; rintro e' w' ⟨rfl, hb⟩; have HB := Lib.hid hb; clear hb)
    go_ret
    rw [HV.out]
    exact ⟨rfl, HB.out⟩
  · have HV : Hid (longM y 10 = 31) := by show longM y 10 = 31; simp [longM]
    clear HL
    have hix : ∀ W : World, (Instr.index 126 (.agg #[.int .i64 31, .int .i64 28, .int .i64 31, .int .i64 30, .int .i64 31, .int .i64 30, .int .i64 31, .int .i64 31, .int .i64 30, .int .i64 31, .int .i64 30, .int .i64 31]) (.int .i64 9)).run Try.prog W = .ok (.int .i64 31) W := fun W => by kernel_rfl
    go_enter Try.func72, Try.ntmps72
    go_wp2_with (go_at_call 91; refine (lengths_any _).mono ?_; rintro e' w' ⟨rfl, hb⟩; have HB := Lib.hid hb; clear hb)
    go_ret
    rw [HV.out]
    exact ⟨rfl, HB.out⟩
  · have HV : Hid (longM y 11 = 30) := by show longM y 11 = 30; simp [longM]
    clear HL
    have hix : ∀ W : World, (Instr.index 126 (.agg #[.int .i64 31, .int .i64 28, .int .i64 31, .int .i64 30, .int .i64 31, .int .i64 30, .int .i64 31, .int .i64 31, .int .i64 30, .int .i64 31, .int .i64 30, .int .i64 31]) (.int .i64 10)).run Try.prog W = .ok (.int .i64 30) W := fun W => by kernel_rfl
    go_enter Try.func72, Try.ntmps72
    go_wp2_with (go_at_call 91; refine (lengths_any _).mono ?_; rintro e' w' ⟨rfl, hb⟩; have HB := Lib.hid hb; clear hb)
    go_ret
    rw [HV.out]
    exact ⟨rfl, HB.out⟩
  · have HV : Hid (longM y 12 = 31) := by show longM y 12 = 31; simp [longM]
    clear HL
    have hix : ∀ W : World, (Instr.index 126 (.agg #[.int .i64 31, .int .i64 28, .int .i64 31, .int .i64 30, .int .i64 31, .int .i64 30, .int .i64 31, .int .i64 31, .int .i64 30, .int .i64 31, .int .i64 30, .int .i64 31]) (.int .i64 11)).run Try.prog W = .ok (.int .i64 31) W := fun W => by kernel_rfl
    go_enter Try.func72, Try.ntmps72
    go_wp2_with (go_at_call 91; refine (lengths_any _).mono ?_; rintro e' w' ⟨rfl, hb⟩; have HB := Lib.hid hb; clear hb)
    go_ret
    rw [HV.out]
    exact ⟨rfl, HB.out⟩
theorem days_late {n y m d : Int} (h : IsDate n y m d) (hm : 3 ≤ m) : y * 365 + y / 4 - y / 100 + y / 400 + (153 * (m - 3) + 2) / 5 + d - 1 - 719468 = n := by
  have he := h.eq
  have h2 := march_day y
  have hms : m = 3 ∨ m = 4 ∨ m = 5 ∨ m = 6 ∨ m = 7 ∨ m = 8 ∨ m = 9 ∨ m = 10 ∨ m = 11 ∨ m = 12 := by have := h.m2; omega
  clear h hm
  rcases hms with rfl | rfl | rfl | rfl | rfl | rfl | rfl | rfl | rfl | rfl
  all_goals
    simp [dayM] at he
    omega
theorem days_early {n y m d : Int} (h : IsDate n y m d) (hm : m < 3) : (y - 1) * 365 + (y - 1) / 4 - (y - 1) / 100 + (y - 1) / 400 + (153 * (m + 9) + 2) / 5 + d - 1 - 719468 = n := by
  have he := h.eq
  have h2 := next_day (y - 1)
  rw [Int.sub_add_cancel] at h2
  have hms : m = 1 ∨ m = 2 := by have := h.m1; omega
  clear h hm
  rcases hms with rfl | rfl
  all_goals
    simp [dayM] at he
    omega
theorem right_any {n y m d : Int} (hd : IsDate n y m d) (w : World) : Calls Try.prog 53 #[.int .i64 y, .int .i64 m, .int .i64 d] w fun e w' => e = .returned (.bool true) ∧ Below w.heap.size w w' := by
  obtain ⟨L, hL⟩ : ∃ L, L = longM y m := ⟨_, rfl⟩
  have HL : Hid (∀ W : World, Calls Try.prog 72 #[.int .i64 y, .int .i64 m] W fun e w' => e = .returned (.int .i64 L) ∧ Below W.heap.size W w') := fun W => by rw [hL]; exact long_any y m (by have := hd.y1; omega) hd.m1 hd.m2 W
  obtain ⟨y1, y2, m1, m2, d1, d2, -⟩ := hd
  rw [← hL] at d2
  clear hL
  go_enter Try.func53, Try.ntmps53
  go_wp2_with (go_at_call 72; refine (HL.out _).mono ?_; rintro e' w' ⟨rfl, hb⟩; have HB := Lib.hid hb; clear hb)
  go_ret
  exact ⟨by simp, HB.out⟩
theorem date_days {n y m d : Int} (hd : IsDate n y m d) (w : World) : Calls Try.prog 41 #[.int .i64 y, .int .i64 m, .int .i64 d] w fun e w' => e = .returned (.tuple #[.int .i64 n, .bool true]) ∧ Below w.heap.size w w' := by
  have HR := Lib.hid (fun W => right_any hd W)
  have HE := Lib.hid (fun h => days_late hd h)
  have HF := Lib.hid (fun h => days_early hd h)
  have hd31 : d ≤ 31 := by have := (longM_range y m hd.m1 hd.m2).2; have := hd.d2; omega
  obtain ⟨y1, y2, m1, m2, d1, -, -⟩ := hd
  by_cases h3 : 3 ≤ m
  · have hv := HE.out h3
    have hm9 : (m + 9) % 12 = m - 3 := by omega
    go_enter Try.func41, Try.ntmps41
    go_wp2_with (go_at_call 53; refine (HR.out _).mono ?_; rintro e' w' ⟨rfl, hb⟩; have HB := Lib.hid hb; clear hb)
    go_ret2
    exact ⟨rfl, HB.out⟩
  · have h3' : m < 3 := by omega
    have hv := HF.out h3'
    have hm9 : (m + 9) % 12 = m + 9 := by omega
    clear h3
    go_enter Try.func41, Try.ntmps41
    go_wp2_with (go_at_call 53; refine (HR.out _).mono ?_; rintro e' w' ⟨rfl, hb⟩; have HB := Lib.hid hb; clear hb)
    go_ret2
    exact ⟨rfl, HB.out⟩
theorem nat_of (x : Int) (h : 0 ≤ x) : ∃ k : Nat, x = k := ⟨x.toNat, by omega⟩
theorem IsDate_range {n y m d : Int} (h : IsDate n y m d) : -719162 ≤ n ∧ n < 2932897 := by
  obtain ⟨h1, h2⟩ := h.year
  have h3 : dayY 1 ≤ dayY y := dayY_le (by decide) h.y1
  have h4 : dayY (y + 1) ≤ dayY 10000 := dayY_le (by have := h.y1; omega) (by have := h.y2; omega)
  have e1 : dayY 1 = -719162 := by decide
  have e2 : dayY 10000 = 2932897 := by decide
  omega
theorem of_none {n : Int} (hl : -9223372036854775808 ≤ n) (hh : n ≤ 9223372036854775807) (h : n < -719162 ∨ 2932897 ≤ n) (w : World) : Calls Try.prog 52 #[.int .i64 n] w fun e w' => e = .returned (.tuple #[.int .i64 0, .int .i64 0, .int .i64 0, .bool false]) ∧ w = w' := by
  by_cases h1 : n < -719162
  · go_enter Try.func52, Try.ntmps52
    go_wp2_with fail
    exact bodyPost_ret (v := .tuple #[.int .i64 0, .int .i64 0, .int .i64 0, .bool false]) (by simp [results, Try.results52, go_sem]) rfl ⟨rfl, rfl⟩
  · have h2 : 2932897 ≤ n := by omega
    have h3 : -719162 ≤ n := by omega
    clear h
    go_enter Try.func52, Try.ntmps52
    go_wp2_with fail
    exact bodyPost_ret (v := .tuple #[.int .i64 0, .int .i64 0, .int .i64 0, .bool false]) (by simp [results, Try.results52, go_sem]) rfl ⟨rfl, rfl⟩
set_option maxHeartbeats 2000000 in
theorem of_any {n y m d : Int} (hd : IsDate n y m d) (w : World) : Calls Try.prog 52 #[.int .i64 n] w fun e w' => e = .returned (.tuple #[.int .i64 y, .int .i64 m, .int .i64 d, .bool true]) ∧ w = w' := by
  obtain ⟨hn1, hn2⟩ := IsDate_range hd
  obtain ⟨q, hq⟩ : ∃ q, q = (n + 719468) / 146097 := ⟨_, rfl⟩
  obtain ⟨r0, hr0⟩ : ∃ r, r = (n + 719468) % 146097 := ⟨_, rfl⟩
  obtain ⟨a, ha⟩ : ∃ r, r = r0 / 36524 := ⟨_, rfl⟩
  obtain ⟨c, hc⟩ : ∃ r, r = min a 3 := ⟨_, rfl⟩
  obtain ⟨r1, hr1⟩ : ∃ r, r = r0 - c * 36524 := ⟨_, rfl⟩
  obtain ⟨f, hf⟩ : ∃ r, r = r1 / 1461 := ⟨_, rfl⟩
  obtain ⟨r2, hr2⟩ : ∃ r, r = r1 - f * 1461 := ⟨_, rfl⟩
  obtain ⟨b, hb⟩ : ∃ r, r = r2 / 365 := ⟨_, rfl⟩
  obtain ⟨o, ho⟩ : ∃ r, r = min b 3 := ⟨_, rfl⟩
  obtain ⟨r3, hr3⟩ : ∃ r, r = r2 - o * 365 := ⟨_, rfl⟩
  have HP : Parts n q c f o r3 := parts_of hn1 hn2 hq (by rw [hc, ha, hr0]) (by rw [hf, hr1, hr0]) (by rw [ho, hb, hr2, hr1, hr0]) (by rw [hr3, hr2, hr1, hr0])
  obtain ⟨y0, hy0⟩ : ∃ r, r = q * 400 + (c * 100 + f * 4 + o) := ⟨_, rfl⟩
  obtain ⟨k, hk⟩ : ∃ r, r = (5 * r3 + 2) / 153 := ⟨_, rfl⟩
  obtain ⟨t, ht⟩ : ∃ r, r = (153 * k + 2) / 5 := ⟨_, rfl⟩
  obtain ⟨u, hu⟩ : ∃ r, r = (k + 2) % 12 := ⟨_, rfl⟩
  have b1 : 0 ≤ r0 ∧ r0 ≤ 146096 := by omega
  have b2 : 0 ≤ a ∧ a ≤ 4 := by omega
  have b3 : 0 ≤ r1 ∧ r1 ≤ 36524 := by omega
  have b4 : 0 ≤ r2 ∧ r2 ≤ 1460 := by omega
  have b5 : 0 ≤ b ∧ b ≤ 4 := by omega
  have b6 : 0 ≤ k ∧ k ≤ 11 := by have := HP.r1; have := HP.r2; omega
  have b7 : 0 ≤ t ∧ t ≤ 337 := by omega
  have b8 : 0 ≤ u ∧ u ≤ 11 := by omega
  have hfin : (k < 10 ∧ y = y0 ∨ 10 ≤ k ∧ y = y0 + 1) ∧ m = u + 1 ∧ d = r3 - t + 1 := by
    by_cases h10 : k < 10
    · obtain ⟨e1, e2, e3⟩ := hd.unique (of_early hn1 hn2 HP hk hy0 h10)
      rw [← hu] at e2
      rw [← ht] at e3
      exact ⟨.inl ⟨h10, e1⟩, e2, e3⟩
    · obtain ⟨e1, e2, e3⟩ := hd.unique (of_late hn1 hn2 HP hk hy0 (by omega))
      rw [← hu] at e2
      rw [← ht] at e3
      exact ⟨.inr ⟨by omega, e1⟩, e2, e3⟩
  obtain ⟨p1, p2, p3, p4, p5, p6, p7, p8, p9, p10, -, -⟩ := HP
  have b9 : 0 ≤ y0 ∧ y0 ≤ 10399 := by omega
  obtain ⟨hy, hm, hdd⟩ := hfin
  have z1 := hd.y1
  have z2 := hd.m1
  have z3 := hd.d1
  clear hd
  obtain ⟨q, rfl⟩ := nat_of q (by omega)
  obtain ⟨r0, rfl⟩ := nat_of r0 (by omega)
  obtain ⟨a, rfl⟩ := nat_of a (by omega)
  obtain ⟨c, rfl⟩ := nat_of c (by omega)
  obtain ⟨r1, rfl⟩ := nat_of r1 (by omega)
  obtain ⟨f, rfl⟩ := nat_of f (by omega)
  obtain ⟨r2, rfl⟩ := nat_of r2 (by omega)
  obtain ⟨b, rfl⟩ := nat_of b (by omega)
  obtain ⟨o, rfl⟩ := nat_of o (by omega)
  obtain ⟨r3, rfl⟩ := nat_of r3 (by omega)
  obtain ⟨y0, rfl⟩ := nat_of y0 (by omega)
  obtain ⟨k, rfl⟩ := nat_of k (by omega)
  obtain ⟨t, rfl⟩ := nat_of t (by omega)
  obtain ⟨u, rfl⟩ := nat_of u (by omega)
  obtain ⟨y, rfl⟩ := nat_of y (by omega)
  obtain ⟨m, rfl⟩ := nat_of m (by omega)
  obtain ⟨d, rfl⟩ := nat_of d (by omega)
  have v1 : Value.int .i64 ((n + 719468) / 146097) = .int .i64 (q : Int) := by rw [hq]
  have v2 : Value.int .i64 ((n + 719468) % 146097) = .int .i64 (r0 : Int) := by rw [hr0]
  have v3 : Value.int .i64 ((r0 : Int) / 36524) = .int .i64 (a : Int) := by rw [ha]
  have v4 : Value.int .i64 (if (3 : Int) < (a : Int) then 3 else (a : Int)) = .int .i64 (c : Int) := by rw [show (if (3 : Int) < (a : Int) then 3 else (a : Int)) = (c : Int) from by split <;> omega]
  have v5 : Value.int .i64 ((r0 : Int) - c * 36524) = .int .i64 (r1 : Int) := by rw [hr1]
  have v6 : Value.int .i64 ((r1 : Int) / 1461) = .int .i64 (f : Int) := by rw [hf]
  have v7 : Value.int .i64 ((r1 : Int) - f * 1461) = .int .i64 (r2 : Int) := by rw [hr2]
  have v8 : Value.int .i64 ((r2 : Int) / 365) = .int .i64 (b : Int) := by rw [hb]
  have v9 : Value.int .i64 (if (3 : Int) < (b : Int) then 3 else (b : Int)) = .int .i64 (o : Int) := by rw [show (if (3 : Int) < (b : Int) then 3 else (b : Int)) = (o : Int) from by split <;> omega]
  have v10 : Value.int .i64 ((r2 : Int) - o * 365) = .int .i64 (r3 : Int) := by rw [hr3]
  have v11 : Value.int .i64 ((q : Int) * 400 + (c * 100 + f * 4 + o)) = .int .i64 (y0 : Int) := by rw [hy0]
  have v12 : Value.int .i64 ((5 * (r3 : Int) + 2) / 153) = .int .i64 (k : Int) := by rw [hk]
  have v13 : Value.int .i64 ((153 * (k : Int) + 2) / 5) = .int .i64 (t : Int) := by rw [ht]
  have v14 : Value.int .i64 (((k : Int) + 2) % 12) = .int .i64 (u : Int) := by rw [hu]
  have v15 : Value.int .i64 ((u : Int) + 1) = .int .i64 (m : Int) := by rw [hm]
  have v16 : Value.int .i64 ((r3 : Int) - t + 1) = .int .i64 (d : Int) := by rw [hdd]
  have HF := Lib.hid (And.intro hy0 (And.intro hm hdd))
  clear hq hr0 ha hc hr1 hf hr2 hb ho hr3 hk ht hu hm hdd hy0
  obtain ⟨b1, b1'⟩ := b1
  obtain ⟨b2, b2'⟩ := b2
  obtain ⟨b3, b3'⟩ := b3
  obtain ⟨b4, b4'⟩ := b4
  obtain ⟨b5, b5'⟩ := b5
  obtain ⟨b6, b6'⟩ := b6
  obtain ⟨b7, b7'⟩ := b7
  obtain ⟨b8, b8'⟩ := b8
  obtain ⟨b9, b9'⟩ := b9
  rcases hy with ⟨h10, hy⟩ | ⟨h10, hy⟩
  · have v17 : Value.int .i64 (y0 : Int) = .int .i64 (y : Int) := by rw [hy]
    have HY := Lib.hid hy
    clear hy
    go_enter Try.func52, Try.ntmps52
    go_wp2_with fail
    exact bodyPost_ret (v := .tuple #[.int .i64 y, .int .i64 m, .int .i64 d, .bool true]) (by simp [results, Try.results52, go_sem]; have := HF.out; have := HY.out; omega) rfl ⟨rfl, rfl⟩
  · have v17 : Value.int .i64 ((y0 : Int) + 1) = .int .i64 (y : Int) := by rw [hy]
    have HY := Lib.hid hy
    clear hy
    go_enter Try.func52, Try.ntmps52
    go_wp2_with fail
    exact bodyPost_ret (v := .tuple #[.int .i64 y, .int .i64 m, .int .i64 d, .bool true]) (by simp [results, Try.results52, go_sem]; have := HF.out; have := HY.out; omega) rfl ⟨rfl, rfl⟩
end Go.Proofs.Ytkcimbjgjamloaa

/- The reference's Status: what it answers, path by path. -/
import Derived.Test.YtmoofcmmpemdcaaGreatDoorStatusAll
set_option linter.unusedSimpArgs false
set_option linter.unusedVariables false
namespace Go.Proofs.YtmoofcmmpemdcaaGreatDoor
open Go.RowKit
theorem rformed8_at {s : ByteArray} (hs : s.size ≤ 9223372036854775807) {p : Bool} (h : vform (hd8 s) = p) (w : World) : Calls Tryz.prog 160 #[.string (s.extract 0 8)] w fun e w' => e = .returned (.bool p) ∧ w = w' :=
  rformed_at (s := s.extract 0 8) (by simp; omega) h w
theorem rminor8_at {s : ByteArray} (hs : s.size ≤ 9223372036854775807) {k f : Int} (h : vminor (hd8 s) = (k, f)) (w : World) : Calls Tryz.prog 159 #[.string (s.extract 0 8)] w fun r w' => r = .returned (.tuple #[.int .i64 k, .int .i64 f]) ∧ w = w' :=
  rminor_any (hd8 s) (by unfold hd8; simp; omega) h w
set_option maxRecDepth 100000 in
set_option maxHeartbeats 4000000 in
theorem rstatus_A (s : ByteArray) (hs : s.size ≤ 100000) (w : World) (hsz : s.size < 12) :
    Calls Tryz.prog 112 #[.string s] w fun o w' => o = .returned (.tuple #[.agg #[.string ⟨#[]⟩, .string ⟨#[]⟩, .int .i64 0, .int .i64 0, .string (⟨#[]⟩), .slice none 0 0], .int .i64 3]) ∧ Below w.heap.size w w' := by
  have hsi : (s.size : Int) ≤ 100000 := by omega
  have hlt : (s.size : Int) < 12 := by omega
  have hS : Hid (s.size ≤ 9223372036854775807) := by show s.size ≤ 9223372036854775807; omega

  clear hs
  go_enter Tryz.func112, Tryz.ntmps112
  go_wp2_with fail
  obtain ⟨Wf, hWf⟩ : ∃ Wf, Wf = w.alloc (.cells #[.string ⟨#[]⟩, .string ⟨#[]⟩, .int .i64 0, .int .i64 0, .string (⟨#[]⟩), .slice none 0 0] 24) := ⟨_, rfl⟩
  have q : Blk Wf w.heap.size #[.string ⟨#[]⟩, .string ⟨#[]⟩, .int .i64 0, .int .i64 0, .string (⟨#[]⟩), .slice none 0 0] 24 := by rw [hWf]; exact Blk.new _ _ _
  have u : Below w.heap.size w Wf := by rw [hWf]; exact ((Below.refl w.heap.size w).alloc (Nat.le_refl _) (.cells #[.string ⟨#[]⟩, .string ⟨#[]⟩, .int .i64 0, .int .i64 0, .string (⟨#[]⟩), .slice none 0 0] 24))
  rw [← hWf]
  have q0 := q.cell 0
  have q1 := q.cell 1
  have q2 := q.cell 2
  have q3 := q.cell 3
  have q4 := q.cell 4
  have q5 := q.cell 5
  simp only [List.getElem?_toArray, List.getElem?_cons_zero, List.getElem?_cons_succ] at q0 q1 q2 q3 q4 q5
  exact bodyPost_ret (v := .tuple #[.agg #[.string ⟨#[]⟩, .string ⟨#[]⟩, .int .i64 0, .int .i64 0, .string (⟨#[]⟩), .slice none 0 0], .int .i64 3]) (by simp [results, Tryz.results112, go_sem, q0, q1, q2, q3, q4, q5]) rfl ⟨rfl, u⟩
set_option maxRecDepth 100000 in
set_option maxHeartbeats 4000000 in
theorem rstatus_B (s : ByteArray) (hs : s.size ≤ 100000) (w : World) (hsz : 12 ≤ s.size) (hf : vform (hd8 s) = false) :
    Calls Tryz.prog 112 #[.string s] w fun o w' => o = .returned (.tuple #[.agg #[.string ⟨#[]⟩, .string ⟨#[]⟩, .int .i64 0, .int .i64 0, .string (⟨#[]⟩), .slice none 0 0], .int .i64 3]) ∧ Below w.heap.size w w' := by
  have hsi : (s.size : Int) ≤ 100000 := by omega
  have hsj : (12 : Int) ≤ s.size := by omega
  have hlt : decide ((s.size : Int) < 12) = false := by rw [decide_eq_false_iff_not]; omega
  have hS : Hid (s.size ≤ 9223372036854775807) := by show s.size ≤ 9223372036854775807; omega
  have HF := Lib.hid hf
  clear hs hf
  go_enter Tryz.func112, Tryz.ntmps112
  go_wp2_with (first
    | (go_at_call 160; refine (rformed8_at hS.out HF.out _).mono ?_; rintro e' w' ⟨rfl, rfl⟩))
  obtain ⟨Wf, hWf⟩ : ∃ Wf, Wf = w.alloc (.cells #[.string ⟨#[]⟩, .string ⟨#[]⟩, .int .i64 0, .int .i64 0, .string (⟨#[]⟩), .slice none 0 0] 24) := ⟨_, rfl⟩
  have q : Blk Wf w.heap.size #[.string ⟨#[]⟩, .string ⟨#[]⟩, .int .i64 0, .int .i64 0, .string (⟨#[]⟩), .slice none 0 0] 24 := by rw [hWf]; exact Blk.new _ _ _
  have u : Below w.heap.size w Wf := by rw [hWf]; exact ((Below.refl w.heap.size w).alloc (Nat.le_refl _) (.cells #[.string ⟨#[]⟩, .string ⟨#[]⟩, .int .i64 0, .int .i64 0, .string (⟨#[]⟩), .slice none 0 0] 24))
  rw [← hWf]
  have q0 := q.cell 0
  have q1 := q.cell 1
  have q2 := q.cell 2
  have q3 := q.cell 3
  have q4 := q.cell 4
  have q5 := q.cell 5
  simp only [List.getElem?_toArray, List.getElem?_cons_zero, List.getElem?_cons_succ] at q0 q1 q2 q3 q4 q5
  exact bodyPost_ret (v := .tuple #[.agg #[.string ⟨#[]⟩, .string ⟨#[]⟩, .int .i64 0, .int .i64 0, .string (⟨#[]⟩), .slice none 0 0], .int .i64 3]) (by simp [results, Tryz.results112, go_sem, q0, q1, q2, q3, q4, q5]) rfl ⟨rfl, u⟩
set_option maxRecDepth 100000 in
set_option maxHeartbeats 4000000 in
theorem rstatus_C (s : ByteArray) (hs : s.size ≤ 100000) (w : World) (hsz : 12 ≤ s.size) (hf : vform (hd8 s) = true) (h8 : bt s 8 ≠ 32) :
    Calls Tryz.prog 112 #[.string s] w fun o w' => o = .returned (.tuple #[.agg #[.string ⟨#[]⟩, .string ⟨#[]⟩, .int .i64 0, .int .i64 0, .string (⟨#[]⟩), .slice none 0 0], .int .i64 3]) ∧ Below w.heap.size w w' := by
  have hsi : (s.size : Int) ≤ 100000 := by omega
  have hsj : (12 : Int) ≤ s.size := by omega
  have hlt : decide ((s.size : Int) < 12) = false := by rw [decide_eq_false_iff_not]; omega
  obtain ⟨b8, hb8⟩ : ∃ b, b = bt s 8 := ⟨_, rfl⟩
  have i8 : ∀ W : World, (Instr.index 9 (.string s) (.int .i64 8)).run Tryz.prog W = .ok (.int .u8 b8) W := index_at s 8 (by omega) hb8
  rw [← hb8] at h8
  have n8 : (b8 == 32) = false := by rw [beq_eq_false_iff_ne]; exact h8
  have m8 : (b8 != 32) = true := by rw [bne_iff_ne]; exact h8
  have d8 : decide (b8 = 32) = false := decide_eq_false h8
  clear hb8
  have hS : Hid (s.size ≤ 9223372036854775807) := by show s.size ≤ 9223372036854775807; omega
  have HF := Lib.hid hf
  clear hs hf
  go_enter Tryz.func112, Tryz.ntmps112
  go_wp2_with (first
    | (go_at_call 160; refine (rformed8_at hS.out HF.out _).mono ?_; rintro e' w' ⟨rfl, rfl⟩))
  obtain ⟨Wf, hWf⟩ : ∃ Wf, Wf = w.alloc (.cells #[.string ⟨#[]⟩, .string ⟨#[]⟩, .int .i64 0, .int .i64 0, .string (⟨#[]⟩), .slice none 0 0] 24) := ⟨_, rfl⟩
  have q : Blk Wf w.heap.size #[.string ⟨#[]⟩, .string ⟨#[]⟩, .int .i64 0, .int .i64 0, .string (⟨#[]⟩), .slice none 0 0] 24 := by rw [hWf]; exact Blk.new _ _ _
  have u : Below w.heap.size w Wf := by rw [hWf]; exact ((Below.refl w.heap.size w).alloc (Nat.le_refl _) (.cells #[.string ⟨#[]⟩, .string ⟨#[]⟩, .int .i64 0, .int .i64 0, .string (⟨#[]⟩), .slice none 0 0] 24))
  rw [← hWf]
  have q0 := q.cell 0
  have q1 := q.cell 1
  have q2 := q.cell 2
  have q3 := q.cell 3
  have q4 := q.cell 4
  have q5 := q.cell 5
  simp only [List.getElem?_toArray, List.getElem?_cons_zero, List.getElem?_cons_succ] at q0 q1 q2 q3 q4 q5
  exact bodyPost_ret (v := .tuple #[.agg #[.string ⟨#[]⟩, .string ⟨#[]⟩, .int .i64 0, .int .i64 0, .string (⟨#[]⟩), .slice none 0 0], .int .i64 3]) (by simp [results, Tryz.results112, go_sem, q0, q1, q2, q3, q4, q5]) rfl ⟨rfl, u⟩
set_option maxRecDepth 100000 in
set_option maxHeartbeats 4000000 in
theorem rstatus_D9 (s : ByteArray) (hs : s.size ≤ 100000) (w : World) (hsz : 12 ≤ s.size) (hf : vform (hd8 s) = true) (h8 : bt s 8 = 32) (g9 : isDg (bt s 9) = false) :
    Calls Tryz.prog 112 #[.string s] w fun o w' => o = .returned (.tuple #[.agg #[.string ⟨#[]⟩, .string ⟨#[]⟩, .int .i64 0, .int .i64 0, .string (⟨#[]⟩), .slice none 0 0], .int .i64 3]) ∧ Below w.heap.size w w' := by
  have hsi : (s.size : Int) ≤ 100000 := by omega
  have hsj : (12 : Int) ≤ s.size := by omega
  have hlt : decide ((s.size : Int) < 12) = false := by rw [decide_eq_false_iff_not]; omega
  have i8 : ∀ W : World, (Instr.index 9 (.string s) (.int .i64 8)).run Tryz.prog W = .ok (.int .u8 32) W := index_at s 8 (by omega) h8.symm
  obtain ⟨b9, hb9⟩ : ∃ b, b = bt s 9 := ⟨_, rfl⟩
  have i9 : ∀ W : World, (Instr.index 9 (.string s) (.int .i64 9)).run Tryz.prog W = .ok (.int .u8 b9) W := index_at s 9 (by omega) hb9
  have r9 := Lib.hid (bt_range s 9)
  rw [← hb9] at g9 r9
  have G9 := Lib.hid g9
  clear hb9 g9
  have hS : Hid (s.size ≤ 9223372036854775807) := by show s.size ≤ 9223372036854775807; omega
  have HF := Lib.hid hf
  have HD : Hid (∀ (r : Int) (W : World), (r = b9) → Calls Tryz.prog 161 #[.int .u8 r] W fun e w' => e = .returned (.bool (isDg r)) ∧ W = w') := by
    show ∀ (r : Int) (W : World), (r = b9) → Calls Tryz.prog 161 #[.int .u8 r] W fun e w' => e = .returned (.bool (isDg r)) ∧ W = w'
    rintro r W rfl
    · exact rdigit15_at rfl r9.out W
  have d9 : isDg b9 = false := G9.out
  clear G9 r9
  clear hs hf h8
  go_enter Tryz.func112, Tryz.ntmps112
  go_wp2_with (first
    | (go_at_call 160; refine (rformed8_at hS.out HF.out _).mono ?_; rintro e' w' ⟨rfl, rfl⟩)
    | (go_at_call 161; refine (HD.out _ _ ?hd).mono ?_; (case hd => first | exact rfl); rintro e' w' ⟨rfl, rfl⟩))
  obtain ⟨Wf, hWf⟩ : ∃ Wf, Wf = w.alloc (.cells #[.string ⟨#[]⟩, .string ⟨#[]⟩, .int .i64 0, .int .i64 0, .string (⟨#[]⟩), .slice none 0 0] 24) := ⟨_, rfl⟩
  have q : Blk Wf w.heap.size #[.string ⟨#[]⟩, .string ⟨#[]⟩, .int .i64 0, .int .i64 0, .string (⟨#[]⟩), .slice none 0 0] 24 := by rw [hWf]; exact Blk.new _ _ _
  have u : Below w.heap.size w Wf := by rw [hWf]; exact ((Below.refl w.heap.size w).alloc (Nat.le_refl _) (.cells #[.string ⟨#[]⟩, .string ⟨#[]⟩, .int .i64 0, .int .i64 0, .string (⟨#[]⟩), .slice none 0 0] 24))
  rw [← hWf]
  have q0 := q.cell 0
  have q1 := q.cell 1
  have q2 := q.cell 2
  have q3 := q.cell 3
  have q4 := q.cell 4
  have q5 := q.cell 5
  simp only [List.getElem?_toArray, List.getElem?_cons_zero, List.getElem?_cons_succ] at q0 q1 q2 q3 q4 q5
  exact bodyPost_ret (v := .tuple #[.agg #[.string ⟨#[]⟩, .string ⟨#[]⟩, .int .i64 0, .int .i64 0, .string (⟨#[]⟩), .slice none 0 0], .int .i64 3]) (by simp [results, Tryz.results112, go_sem, q0, q1, q2, q3, q4, q5]) rfl ⟨rfl, u⟩
set_option maxRecDepth 100000 in
set_option maxHeartbeats 4000000 in
theorem rstatus_D10 (s : ByteArray) (hs : s.size ≤ 100000) (w : World) (hsz : 12 ≤ s.size) (hf : vform (hd8 s) = true) (h8 : bt s 8 = 32) (g9 : isDg (bt s 9) = true) (g10 : isDg (bt s 10) = false) :
    Calls Tryz.prog 112 #[.string s] w fun o w' => o = .returned (.tuple #[.agg #[.string ⟨#[]⟩, .string ⟨#[]⟩, .int .i64 0, .int .i64 0, .string (⟨#[]⟩), .slice none 0 0], .int .i64 3]) ∧ Below w.heap.size w w' := by
  have hsi : (s.size : Int) ≤ 100000 := by omega
  have hsj : (12 : Int) ≤ s.size := by omega
  have hlt : decide ((s.size : Int) < 12) = false := by rw [decide_eq_false_iff_not]; omega
  have i8 : ∀ W : World, (Instr.index 9 (.string s) (.int .i64 8)).run Tryz.prog W = .ok (.int .u8 32) W := index_at s 8 (by omega) h8.symm
  obtain ⟨b9, hb9⟩ : ∃ b, b = bt s 9 := ⟨_, rfl⟩
  have i9 : ∀ W : World, (Instr.index 9 (.string s) (.int .i64 9)).run Tryz.prog W = .ok (.int .u8 b9) W := index_at s 9 (by omega) hb9
  have r9 := Lib.hid (bt_range s 9)
  rw [← hb9] at g9 r9
  have G9 := Lib.hid g9
  clear hb9 g9
  obtain ⟨b10, hb10⟩ : ∃ b, b = bt s 10 := ⟨_, rfl⟩
  have i10 : ∀ W : World, (Instr.index 9 (.string s) (.int .i64 10)).run Tryz.prog W = .ok (.int .u8 b10) W := index_at s 10 (by omega) hb10
  have r10 := Lib.hid (bt_range s 10)
  rw [← hb10] at g10 r10
  have G10 := Lib.hid g10
  clear hb10 g10
  have hS : Hid (s.size ≤ 9223372036854775807) := by show s.size ≤ 9223372036854775807; omega
  have HF := Lib.hid hf
  have HD : Hid (∀ (r : Int) (W : World), (r = b9 ∨ r = b10) → Calls Tryz.prog 161 #[.int .u8 r] W fun e w' => e = .returned (.bool (isDg r)) ∧ W = w') := by
    show ∀ (r : Int) (W : World), (r = b9 ∨ r = b10) → Calls Tryz.prog 161 #[.int .u8 r] W fun e w' => e = .returned (.bool (isDg r)) ∧ W = w'
    rintro r W (rfl | rfl)
    · exact rdigit15_at rfl r9.out W
    · exact rdigit15_at rfl r10.out W
  have d9 : isDg b9 = true := G9.out
  have d10 : isDg b10 = false := G10.out
  clear G9 r9 G10 r10
  clear hs hf h8
  go_enter Tryz.func112, Tryz.ntmps112
  go_wp2_with (first
    | (go_at_call 160; refine (rformed8_at hS.out HF.out _).mono ?_; rintro e' w' ⟨rfl, rfl⟩)
    | (go_at_call 161; refine (HD.out _ _ ?hd).mono ?_; (case hd => first | exact .inl rfl | exact .inr rfl); rintro e' w' ⟨rfl, rfl⟩))
  obtain ⟨Wf, hWf⟩ : ∃ Wf, Wf = w.alloc (.cells #[.string ⟨#[]⟩, .string ⟨#[]⟩, .int .i64 0, .int .i64 0, .string (⟨#[]⟩), .slice none 0 0] 24) := ⟨_, rfl⟩
  have q : Blk Wf w.heap.size #[.string ⟨#[]⟩, .string ⟨#[]⟩, .int .i64 0, .int .i64 0, .string (⟨#[]⟩), .slice none 0 0] 24 := by rw [hWf]; exact Blk.new _ _ _
  have u : Below w.heap.size w Wf := by rw [hWf]; exact ((Below.refl w.heap.size w).alloc (Nat.le_refl _) (.cells #[.string ⟨#[]⟩, .string ⟨#[]⟩, .int .i64 0, .int .i64 0, .string (⟨#[]⟩), .slice none 0 0] 24))
  rw [← hWf]
  have q0 := q.cell 0
  have q1 := q.cell 1
  have q2 := q.cell 2
  have q3 := q.cell 3
  have q4 := q.cell 4
  have q5 := q.cell 5
  simp only [List.getElem?_toArray, List.getElem?_cons_zero, List.getElem?_cons_succ] at q0 q1 q2 q3 q4 q5
  exact bodyPost_ret (v := .tuple #[.agg #[.string ⟨#[]⟩, .string ⟨#[]⟩, .int .i64 0, .int .i64 0, .string (⟨#[]⟩), .slice none 0 0], .int .i64 3]) (by simp [results, Tryz.results112, go_sem, q0, q1, q2, q3, q4, q5]) rfl ⟨rfl, u⟩
set_option maxRecDepth 100000 in
set_option maxHeartbeats 4000000 in
theorem rstatus_D11 (s : ByteArray) (hs : s.size ≤ 100000) (w : World) (hsz : 12 ≤ s.size) (hf : vform (hd8 s) = true) (h8 : bt s 8 = 32) (g9 : isDg (bt s 9) = true) (g10 : isDg (bt s 10) = true) (g11 : isDg (bt s 11) = false) :
    Calls Tryz.prog 112 #[.string s] w fun o w' => o = .returned (.tuple #[.agg #[.string ⟨#[]⟩, .string ⟨#[]⟩, .int .i64 0, .int .i64 0, .string (⟨#[]⟩), .slice none 0 0], .int .i64 3]) ∧ Below w.heap.size w w' := by
  have hsi : (s.size : Int) ≤ 100000 := by omega
  have hsj : (12 : Int) ≤ s.size := by omega
  have hlt : decide ((s.size : Int) < 12) = false := by rw [decide_eq_false_iff_not]; omega
  have i8 : ∀ W : World, (Instr.index 9 (.string s) (.int .i64 8)).run Tryz.prog W = .ok (.int .u8 32) W := index_at s 8 (by omega) h8.symm
  obtain ⟨b9, hb9⟩ : ∃ b, b = bt s 9 := ⟨_, rfl⟩
  have i9 : ∀ W : World, (Instr.index 9 (.string s) (.int .i64 9)).run Tryz.prog W = .ok (.int .u8 b9) W := index_at s 9 (by omega) hb9
  have r9 := Lib.hid (bt_range s 9)
  rw [← hb9] at g9 r9
  have G9 := Lib.hid g9
  clear hb9 g9
  obtain ⟨b10, hb10⟩ : ∃ b, b = bt s 10 := ⟨_, rfl⟩
  have i10 : ∀ W : World, (Instr.index 9 (.string s) (.int .i64 10)).run Tryz.prog W = .ok (.int .u8 b10) W := index_at s 10 (by omega) hb10
  have r10 := Lib.hid (bt_range s 10)
  rw [← hb10] at g10 r10
  have G10 := Lib.hid g10
  clear hb10 g10
  obtain ⟨b11, hb11⟩ : ∃ b, b = bt s 11 := ⟨_, rfl⟩
  have i11 : ∀ W : World, (Instr.index 9 (.string s) (.int .i64 11)).run Tryz.prog W = .ok (.int .u8 b11) W := index_at s 11 (by omega) hb11
  have r11 := Lib.hid (bt_range s 11)
  rw [← hb11] at g11 r11
  have G11 := Lib.hid g11
  clear hb11 g11
  have hS : Hid (s.size ≤ 9223372036854775807) := by show s.size ≤ 9223372036854775807; omega
  have HF := Lib.hid hf
  have HD : Hid (∀ (r : Int) (W : World), (r = b9 ∨ r = b10 ∨ r = b11) → Calls Tryz.prog 161 #[.int .u8 r] W fun e w' => e = .returned (.bool (isDg r)) ∧ W = w') := by
    show ∀ (r : Int) (W : World), (r = b9 ∨ r = b10 ∨ r = b11) → Calls Tryz.prog 161 #[.int .u8 r] W fun e w' => e = .returned (.bool (isDg r)) ∧ W = w'
    rintro r W (rfl | rfl | rfl)
    · exact rdigit15_at rfl r9.out W
    · exact rdigit15_at rfl r10.out W
    · exact rdigit15_at rfl r11.out W
  have d9 : isDg b9 = true := G9.out
  have d10 : isDg b10 = true := G10.out
  have d11 : isDg b11 = false := G11.out
  clear G9 r9 G10 r10 G11 r11
  clear hs hf h8
  go_enter Tryz.func112, Tryz.ntmps112
  go_wp2_with (first
    | (go_at_call 160; refine (rformed8_at hS.out HF.out _).mono ?_; rintro e' w' ⟨rfl, rfl⟩)
    | (go_at_call 161; refine (HD.out _ _ ?hd).mono ?_; (case hd => first | exact .inl rfl | exact .inr (.inl rfl) | exact .inr (.inr rfl)); rintro e' w' ⟨rfl, rfl⟩))
  obtain ⟨Wf, hWf⟩ : ∃ Wf, Wf = w.alloc (.cells #[.string ⟨#[]⟩, .string ⟨#[]⟩, .int .i64 0, .int .i64 0, .string (⟨#[]⟩), .slice none 0 0] 24) := ⟨_, rfl⟩
  have q : Blk Wf w.heap.size #[.string ⟨#[]⟩, .string ⟨#[]⟩, .int .i64 0, .int .i64 0, .string (⟨#[]⟩), .slice none 0 0] 24 := by rw [hWf]; exact Blk.new _ _ _
  have u : Below w.heap.size w Wf := by rw [hWf]; exact ((Below.refl w.heap.size w).alloc (Nat.le_refl _) (.cells #[.string ⟨#[]⟩, .string ⟨#[]⟩, .int .i64 0, .int .i64 0, .string (⟨#[]⟩), .slice none 0 0] 24))
  rw [← hWf]
  have q0 := q.cell 0
  have q1 := q.cell 1
  have q2 := q.cell 2
  have q3 := q.cell 3
  have q4 := q.cell 4
  have q5 := q.cell 5
  simp only [List.getElem?_toArray, List.getElem?_cons_zero, List.getElem?_cons_succ] at q0 q1 q2 q3 q4 q5
  exact bodyPost_ret (v := .tuple #[.agg #[.string ⟨#[]⟩, .string ⟨#[]⟩, .int .i64 0, .int .i64 0, .string (⟨#[]⟩), .slice none 0 0], .int .i64 3]) (by simp [results, Tryz.results112, go_sem, q0, q1, q2, q3, q4, q5]) rfl ⟨rfl, u⟩
set_option maxRecDepth 100000 in
set_option maxHeartbeats 4000000 in
theorem rstatus_E (s : ByteArray) (hs : s.size ≤ 100000) (w : World) (hsz : 12 < s.size) (hf : vform (hd8 s) = true) (h8 : bt s 8 = 32) (g9 : isDg (bt s 9) = true) (g10 : isDg (bt s 10) = true) (g11 : isDg (bt s 11) = true) (h12 : bt s 12 ≠ 32) :
    Calls Tryz.prog 112 #[.string s] w fun o w' => o = .returned (.tuple #[.agg #[.string ⟨#[]⟩, .string ⟨#[]⟩, .int .i64 0, .int .i64 0, .string (⟨#[]⟩), .slice none 0 0], .int .i64 3]) ∧ Below w.heap.size w w' := by
  have hsi : (s.size : Int) ≤ 100000 := by omega
  have hsj : (12 : Int) ≤ s.size := by omega
  have hlt : decide ((s.size : Int) < 12) = false := by rw [decide_eq_false_iff_not]; omega
  have hsk : (12 : Int) < s.size := by omega
  have i8 : ∀ W : World, (Instr.index 9 (.string s) (.int .i64 8)).run Tryz.prog W = .ok (.int .u8 32) W := index_at s 8 (by omega) h8.symm
  obtain ⟨b9, hb9⟩ : ∃ b, b = bt s 9 := ⟨_, rfl⟩
  have i9 : ∀ W : World, (Instr.index 9 (.string s) (.int .i64 9)).run Tryz.prog W = .ok (.int .u8 b9) W := index_at s 9 (by omega) hb9
  have r9 := Lib.hid (bt_range s 9)
  rw [← hb9] at g9 r9
  have G9 := Lib.hid g9
  clear hb9 g9
  obtain ⟨b10, hb10⟩ : ∃ b, b = bt s 10 := ⟨_, rfl⟩
  have i10 : ∀ W : World, (Instr.index 9 (.string s) (.int .i64 10)).run Tryz.prog W = .ok (.int .u8 b10) W := index_at s 10 (by omega) hb10
  have r10 := Lib.hid (bt_range s 10)
  rw [← hb10] at g10 r10
  have G10 := Lib.hid g10
  clear hb10 g10
  obtain ⟨b11, hb11⟩ : ∃ b, b = bt s 11 := ⟨_, rfl⟩
  have i11 : ∀ W : World, (Instr.index 9 (.string s) (.int .i64 11)).run Tryz.prog W = .ok (.int .u8 b11) W := index_at s 11 (by omega) hb11
  have r11 := Lib.hid (bt_range s 11)
  rw [← hb11] at g11 r11
  have G11 := Lib.hid g11
  clear hb11 g11
  obtain ⟨b12, hb12⟩ : ∃ b, b = bt s 12 := ⟨_, rfl⟩
  have i12 : ∀ W : World, (Instr.index 9 (.string s) (.int .i64 12)).run Tryz.prog W = .ok (.int .u8 b12) W := index_at s 12 (by omega) hb12
  rw [← hb12] at h12
  have n12 : (b12 == 32) = false := by rw [beq_eq_false_iff_ne]; exact h12
  have m12 : (b12 != 32) = true := by rw [bne_iff_ne]; exact h12
  have d12 : decide (b12 = 32) = false := decide_eq_false h12
  clear hb12
  have hS : Hid (s.size ≤ 9223372036854775807) := by show s.size ≤ 9223372036854775807; omega
  have HF := Lib.hid hf
  have HD : Hid (∀ (r : Int) (W : World), (r = b9 ∨ r = b10 ∨ r = b11) → Calls Tryz.prog 161 #[.int .u8 r] W fun e w' => e = .returned (.bool (isDg r)) ∧ W = w') := by
    show ∀ (r : Int) (W : World), (r = b9 ∨ r = b10 ∨ r = b11) → Calls Tryz.prog 161 #[.int .u8 r] W fun e w' => e = .returned (.bool (isDg r)) ∧ W = w'
    rintro r W (rfl | rfl | rfl)
    · exact rdigit15_at rfl r9.out W
    · exact rdigit15_at rfl r10.out W
    · exact rdigit15_at rfl r11.out W
  have d9 : isDg b9 = true := G9.out
  have d10 : isDg b10 = true := G10.out
  have d11 : isDg b11 = true := G11.out
  clear G9 r9 G10 r10 G11 r11
  clear hs hf h8
  go_enter Tryz.func112, Tryz.ntmps112
  go_wp2_with (first
    | (go_at_call 160; refine (rformed8_at hS.out HF.out _).mono ?_; rintro e' w' ⟨rfl, rfl⟩)
    | (go_at_call 161; refine (HD.out _ _ ?hd).mono ?_; (case hd => first | exact .inl rfl | exact .inr (.inl rfl) | exact .inr (.inr rfl)); rintro e' w' ⟨rfl, rfl⟩))
  obtain ⟨Wf, hWf⟩ : ∃ Wf, Wf = w.alloc (.cells #[.string ⟨#[]⟩, .string ⟨#[]⟩, .int .i64 0, .int .i64 0, .string (⟨#[]⟩), .slice none 0 0] 24) := ⟨_, rfl⟩
  have q : Blk Wf w.heap.size #[.string ⟨#[]⟩, .string ⟨#[]⟩, .int .i64 0, .int .i64 0, .string (⟨#[]⟩), .slice none 0 0] 24 := by rw [hWf]; exact Blk.new _ _ _
  have u : Below w.heap.size w Wf := by rw [hWf]; exact ((Below.refl w.heap.size w).alloc (Nat.le_refl _) (.cells #[.string ⟨#[]⟩, .string ⟨#[]⟩, .int .i64 0, .int .i64 0, .string (⟨#[]⟩), .slice none 0 0] 24))
  rw [← hWf]
  have q0 := q.cell 0
  have q1 := q.cell 1
  have q2 := q.cell 2
  have q3 := q.cell 3
  have q4 := q.cell 4
  have q5 := q.cell 5
  simp only [List.getElem?_toArray, List.getElem?_cons_zero, List.getElem?_cons_succ] at q0 q1 q2 q3 q4 q5
  exact bodyPost_ret (v := .tuple #[.agg #[.string ⟨#[]⟩, .string ⟨#[]⟩, .int .i64 0, .int .i64 0, .string (⟨#[]⟩), .slice none 0 0], .int .i64 3]) (by simp [results, Tryz.results112, go_sem, q0, q1, q2, q3, q4, q5]) rfl ⟨rfl, u⟩
set_option maxRecDepth 100000 in
set_option maxHeartbeats 4000000 in
theorem rstatus_F12 (s : ByteArray) (hs : s.size ≤ 100000) (w : World) (hsz : s.size = 12) (hf : vform (hd8 s) = true) (h8 : bt s 8 = 32) (g9 : isDg (bt s 9) = true) (g10 : isDg (bt s 10) = true) (g11 : isDg (bt s 11) = true) {k' f : Int} (hk : vminor (hd8 s) = (k', f)) (hfe : f ≠ 0) :
    Calls Tryz.prog 112 #[.string s] w fun o w' => o = .returned (.tuple #[.agg #[.string ⟨#[]⟩, .string ⟨#[]⟩, .int .i64 0, .int .i64 0, .string (⟨#[]⟩), .slice none 0 0], .int .i64 f]) ∧ Below w.heap.size w w' := by
  have hsi : (s.size : Int) ≤ 100000 := by omega
  have hsj : (12 : Int) ≤ s.size := by omega
  have hlt : decide ((s.size : Int) < 12) = false := by rw [decide_eq_false_iff_not]; omega
  have hsk : decide ((12 : Int) < s.size) = false := by rw [decide_eq_false_iff_not]; omega
  have hsl : decide ((13 : Int) < s.size) = false := by rw [decide_eq_false_iff_not]; omega
  have i8 : ∀ W : World, (Instr.index 9 (.string s) (.int .i64 8)).run Tryz.prog W = .ok (.int .u8 32) W := index_at s 8 (by omega) h8.symm
  obtain ⟨b9, hb9⟩ : ∃ b, b = bt s 9 := ⟨_, rfl⟩
  have i9 : ∀ W : World, (Instr.index 9 (.string s) (.int .i64 9)).run Tryz.prog W = .ok (.int .u8 b9) W := index_at s 9 (by omega) hb9
  have r9 := Lib.hid (bt_range s 9)
  rw [← hb9] at g9 r9
  have G9 := Lib.hid g9
  clear hb9 g9
  obtain ⟨b10, hb10⟩ : ∃ b, b = bt s 10 := ⟨_, rfl⟩
  have i10 : ∀ W : World, (Instr.index 9 (.string s) (.int .i64 10)).run Tryz.prog W = .ok (.int .u8 b10) W := index_at s 10 (by omega) hb10
  have r10 := Lib.hid (bt_range s 10)
  rw [← hb10] at g10 r10
  have G10 := Lib.hid g10
  clear hb10 g10
  obtain ⟨b11, hb11⟩ : ∃ b, b = bt s 11 := ⟨_, rfl⟩
  have i11 : ∀ W : World, (Instr.index 9 (.string s) (.int .i64 11)).run Tryz.prog W = .ok (.int .u8 b11) W := index_at s 11 (by omega) hb11
  have r11 := Lib.hid (bt_range s 11)
  rw [← hb11] at g11 r11
  have G11 := Lib.hid g11
  clear hb11 g11
  have nf : (f == 0) = false := by rw [beq_eq_false_iff_ne]; exact hfe
  have nf2 : (f != 0) = true := by rw [bne_iff_ne]; exact hfe
  have hS : Hid (s.size ≤ 9223372036854775807) := by show s.size ≤ 9223372036854775807; omega
  have HF := Lib.hid hf
  have HD : Hid (∀ (r : Int) (W : World), (r = b9 ∨ r = b10 ∨ r = b11) → Calls Tryz.prog 161 #[.int .u8 r] W fun e w' => e = .returned (.bool (isDg r)) ∧ W = w') := by
    show ∀ (r : Int) (W : World), (r = b9 ∨ r = b10 ∨ r = b11) → Calls Tryz.prog 161 #[.int .u8 r] W fun e w' => e = .returned (.bool (isDg r)) ∧ W = w'
    rintro r W (rfl | rfl | rfl)
    · exact rdigit15_at rfl r9.out W
    · exact rdigit15_at rfl r10.out W
    · exact rdigit15_at rfl r11.out W
  have d9 : isDg b9 = true := G9.out
  have d10 : isDg b10 = true := G10.out
  have d11 : isDg b11 = true := G11.out
  clear G9 r9 G10 r10 G11 r11
  have HK := Lib.hid hk
  clear hs hf h8 hfe hk
  go_enter Tryz.func112, Tryz.ntmps112
  go_wp2_with (first
    | (go_at_call 160; refine (rformed8_at hS.out HF.out _).mono ?_; rintro e' w' ⟨rfl, rfl⟩)
    | (go_at_call 161; refine (HD.out _ _ ?hd).mono ?_; (case hd => first | exact .inl rfl | exact .inr (.inl rfl) | exact .inr (.inr rfl)); rintro e' w' ⟨rfl, rfl⟩)
    | (go_at_call 159; refine (rminor8_at hS.out HK.out _).mono ?_; rintro e' w' ⟨rfl, rfl⟩))
  obtain ⟨Wf, hWf⟩ : ∃ Wf, Wf = w.alloc (.cells #[.string ⟨#[]⟩, .string ⟨#[]⟩, .int .i64 0, .int .i64 0, .string (⟨#[]⟩), .slice none 0 0] 24) := ⟨_, rfl⟩
  have q : Blk Wf w.heap.size #[.string ⟨#[]⟩, .string ⟨#[]⟩, .int .i64 0, .int .i64 0, .string (⟨#[]⟩), .slice none 0 0] 24 := by rw [hWf]; exact Blk.new _ _ _
  have u : Below w.heap.size w Wf := by rw [hWf]; exact ((Below.refl w.heap.size w).alloc (Nat.le_refl _) (.cells #[.string ⟨#[]⟩, .string ⟨#[]⟩, .int .i64 0, .int .i64 0, .string (⟨#[]⟩), .slice none 0 0] 24))
  rw [← hWf]
  have q0 := q.cell 0
  have q1 := q.cell 1
  have q2 := q.cell 2
  have q3 := q.cell 3
  have q4 := q.cell 4
  have q5 := q.cell 5
  simp only [List.getElem?_toArray, List.getElem?_cons_zero, List.getElem?_cons_succ] at q0 q1 q2 q3 q4 q5
  exact bodyPost_ret (v := .tuple #[.agg #[.string ⟨#[]⟩, .string ⟨#[]⟩, .int .i64 0, .int .i64 0, .string (⟨#[]⟩), .slice none 0 0], .int .i64 f]) (by simp [results, Tryz.results112, go_sem, q0, q1, q2, q3, q4, q5]) rfl ⟨rfl, u⟩
set_option maxRecDepth 100000 in
set_option maxHeartbeats 4000000 in
theorem rstatus_G12 (s : ByteArray) (hs : s.size ≤ 100000) (w : World) (hsz : s.size = 12) (hf : vform (hd8 s) = true) (h8 : bt s 8 = 32) (g9 : isDg (bt s 9) = true) (g10 : isDg (bt s 10) = true) (g11 : isDg (bt s 11) = true) {k : Int} (hk : vminor (hd8 s) = (k, 0)) {n : Int} (hn : ∀ W : World, Calls Tryz.prog 108 #[.string (s.extract 9 12), .int .i64 10, .int .i64 999] W fun r w' => r = .returned (.tuple #[.int .i64 n, .int .i64 0]) ∧ W = w') (hn1 : n < 100) :
    Calls Tryz.prog 112 #[.string s] w fun o w' => o = .returned (.tuple #[.agg #[.string ⟨#[]⟩, .string ⟨#[]⟩, .int .i64 0, .int .i64 0, .string (⟨#[]⟩), .slice none 0 0], .int .i64 12]) ∧ Below w.heap.size w w' := by
  have hsi : (s.size : Int) ≤ 100000 := by omega
  have hsj : (12 : Int) ≤ s.size := by omega
  have hlt : decide ((s.size : Int) < 12) = false := by rw [decide_eq_false_iff_not]; omega
  have hsk : decide ((12 : Int) < s.size) = false := by rw [decide_eq_false_iff_not]; omega
  have hsl : decide ((13 : Int) < s.size) = false := by rw [decide_eq_false_iff_not]; omega
  have i8 : ∀ W : World, (Instr.index 9 (.string s) (.int .i64 8)).run Tryz.prog W = .ok (.int .u8 32) W := index_at s 8 (by omega) h8.symm
  obtain ⟨b9, hb9⟩ : ∃ b, b = bt s 9 := ⟨_, rfl⟩
  have i9 : ∀ W : World, (Instr.index 9 (.string s) (.int .i64 9)).run Tryz.prog W = .ok (.int .u8 b9) W := index_at s 9 (by omega) hb9
  have r9 := Lib.hid (bt_range s 9)
  rw [← hb9] at g9 r9
  have G9 := Lib.hid g9
  clear hb9 g9
  obtain ⟨b10, hb10⟩ : ∃ b, b = bt s 10 := ⟨_, rfl⟩
  have i10 : ∀ W : World, (Instr.index 9 (.string s) (.int .i64 10)).run Tryz.prog W = .ok (.int .u8 b10) W := index_at s 10 (by omega) hb10
  have r10 := Lib.hid (bt_range s 10)
  rw [← hb10] at g10 r10
  have G10 := Lib.hid g10
  clear hb10 g10
  obtain ⟨b11, hb11⟩ : ∃ b, b = bt s 11 := ⟨_, rfl⟩
  have i11 : ∀ W : World, (Instr.index 9 (.string s) (.int .i64 11)).run Tryz.prog W = .ok (.int .u8 b11) W := index_at s 11 (by omega) hb11
  have r11 := Lib.hid (bt_range s 11)
  rw [← hb11] at g11 r11
  have G11 := Lib.hid g11
  clear hb11 g11
  have hS : Hid (s.size ≤ 9223372036854775807) := by show s.size ≤ 9223372036854775807; omega
  have HF := Lib.hid hf
  have HD : Hid (∀ (r : Int) (W : World), (r = b9 ∨ r = b10 ∨ r = b11) → Calls Tryz.prog 161 #[.int .u8 r] W fun e w' => e = .returned (.bool (isDg r)) ∧ W = w') := by
    show ∀ (r : Int) (W : World), (r = b9 ∨ r = b10 ∨ r = b11) → Calls Tryz.prog 161 #[.int .u8 r] W fun e w' => e = .returned (.bool (isDg r)) ∧ W = w'
    rintro r W (rfl | rfl | rfl)
    · exact rdigit15_at rfl r9.out W
    · exact rdigit15_at rfl r10.out W
    · exact rdigit15_at rfl r11.out W
  have d9 : isDg b9 = true := G9.out
  have d10 : isDg b10 = true := G10.out
  have d11 : isDg b11 = true := G11.out
  clear G9 r9 G10 r10 G11 r11
  have HK := Lib.hid hk
  have HN := Lib.hid hn
  clear hs hf h8 hk hn
  go_enter Tryz.func112, Tryz.ntmps112
  go_wp2_with (first
    | (go_at_call 160; refine (rformed8_at hS.out HF.out _).mono ?_; rintro e' w' ⟨rfl, rfl⟩)
    | (go_at_call 161; refine (HD.out _ _ ?hd).mono ?_; (case hd => first | exact .inl rfl | exact .inr (.inl rfl) | exact .inr (.inr rfl)); rintro e' w' ⟨rfl, rfl⟩)
    | (go_at_call 159; refine (rminor8_at hS.out HK.out _).mono ?_; rintro e' w' ⟨rfl, rfl⟩)
    | (go_at_call 108; refine (HN.out _).mono ?_; rintro e' w' ⟨rfl, rfl⟩))
  obtain ⟨Wf, hWf⟩ : ∃ Wf, Wf = w.alloc (.cells #[.string ⟨#[]⟩, .string ⟨#[]⟩, .int .i64 0, .int .i64 0, .string (⟨#[]⟩), .slice none 0 0] 24) := ⟨_, rfl⟩
  have q : Blk Wf w.heap.size #[.string ⟨#[]⟩, .string ⟨#[]⟩, .int .i64 0, .int .i64 0, .string (⟨#[]⟩), .slice none 0 0] 24 := by rw [hWf]; exact Blk.new _ _ _
  have u : Below w.heap.size w Wf := by rw [hWf]; exact ((Below.refl w.heap.size w).alloc (Nat.le_refl _) (.cells #[.string ⟨#[]⟩, .string ⟨#[]⟩, .int .i64 0, .int .i64 0, .string (⟨#[]⟩), .slice none 0 0] 24))
  rw [← hWf]
  have q0 := q.cell 0
  have q1 := q.cell 1
  have q2 := q.cell 2
  have q3 := q.cell 3
  have q4 := q.cell 4
  have q5 := q.cell 5
  simp only [List.getElem?_toArray, List.getElem?_cons_zero, List.getElem?_cons_succ] at q0 q1 q2 q3 q4 q5
  exact bodyPost_ret (v := .tuple #[.agg #[.string ⟨#[]⟩, .string ⟨#[]⟩, .int .i64 0, .int .i64 0, .string (⟨#[]⟩), .slice none 0 0], .int .i64 12]) (by simp [results, Tryz.results112, go_sem, q0, q1, q2, q3, q4, q5]) rfl ⟨rfl, u⟩
set_option maxRecDepth 100000 in
set_option maxHeartbeats 4000000 in
theorem rstatus_H12 (s : ByteArray) (hs : s.size ≤ 100000) (w : World) (hsz : s.size = 12) (hf : vform (hd8 s) = true) (h8 : bt s 8 = 32) (g9 : isDg (bt s 9) = true) (g10 : isDg (bt s 10) = true) (g11 : isDg (bt s 11) = true) {k : Int} (hk : vminor (hd8 s) = (k, 0)) {n : Int} (hn : ∀ W : World, Calls Tryz.prog 108 #[.string (s.extract 9 12), .int .i64 10, .int .i64 999] W fun r w' => r = .returned (.tuple #[.int .i64 n, .int .i64 0]) ∧ W = w') (hn1 : 599 < n) :
    Calls Tryz.prog 112 #[.string s] w fun o w' => o = .returned (.tuple #[.agg #[.string ⟨#[]⟩, .string ⟨#[]⟩, .int .i64 0, .int .i64 0, .string (⟨#[]⟩), .slice none 0 0], .int .i64 12]) ∧ Below w.heap.size w w' := by
  have hsi : (s.size : Int) ≤ 100000 := by omega
  have hsj : (12 : Int) ≤ s.size := by omega
  have hlt : decide ((s.size : Int) < 12) = false := by rw [decide_eq_false_iff_not]; omega
  have hsk : decide ((12 : Int) < s.size) = false := by rw [decide_eq_false_iff_not]; omega
  have hsl : decide ((13 : Int) < s.size) = false := by rw [decide_eq_false_iff_not]; omega
  have i8 : ∀ W : World, (Instr.index 9 (.string s) (.int .i64 8)).run Tryz.prog W = .ok (.int .u8 32) W := index_at s 8 (by omega) h8.symm
  obtain ⟨b9, hb9⟩ : ∃ b, b = bt s 9 := ⟨_, rfl⟩
  have i9 : ∀ W : World, (Instr.index 9 (.string s) (.int .i64 9)).run Tryz.prog W = .ok (.int .u8 b9) W := index_at s 9 (by omega) hb9
  have r9 := Lib.hid (bt_range s 9)
  rw [← hb9] at g9 r9
  have G9 := Lib.hid g9
  clear hb9 g9
  obtain ⟨b10, hb10⟩ : ∃ b, b = bt s 10 := ⟨_, rfl⟩
  have i10 : ∀ W : World, (Instr.index 9 (.string s) (.int .i64 10)).run Tryz.prog W = .ok (.int .u8 b10) W := index_at s 10 (by omega) hb10
  have r10 := Lib.hid (bt_range s 10)
  rw [← hb10] at g10 r10
  have G10 := Lib.hid g10
  clear hb10 g10
  obtain ⟨b11, hb11⟩ : ∃ b, b = bt s 11 := ⟨_, rfl⟩
  have i11 : ∀ W : World, (Instr.index 9 (.string s) (.int .i64 11)).run Tryz.prog W = .ok (.int .u8 b11) W := index_at s 11 (by omega) hb11
  have r11 := Lib.hid (bt_range s 11)
  rw [← hb11] at g11 r11
  have G11 := Lib.hid g11
  clear hb11 g11
  have hn0 : decide (n < 100) = false := by rw [decide_eq_false_iff_not]; omega
  have hS : Hid (s.size ≤ 9223372036854775807) := by show s.size ≤ 9223372036854775807; omega
  have HF := Lib.hid hf
  have HD : Hid (∀ (r : Int) (W : World), (r = b9 ∨ r = b10 ∨ r = b11) → Calls Tryz.prog 161 #[.int .u8 r] W fun e w' => e = .returned (.bool (isDg r)) ∧ W = w') := by
    show ∀ (r : Int) (W : World), (r = b9 ∨ r = b10 ∨ r = b11) → Calls Tryz.prog 161 #[.int .u8 r] W fun e w' => e = .returned (.bool (isDg r)) ∧ W = w'
    rintro r W (rfl | rfl | rfl)
    · exact rdigit15_at rfl r9.out W
    · exact rdigit15_at rfl r10.out W
    · exact rdigit15_at rfl r11.out W
  have d9 : isDg b9 = true := G9.out
  have d10 : isDg b10 = true := G10.out
  have d11 : isDg b11 = true := G11.out
  clear G9 r9 G10 r10 G11 r11
  have HK := Lib.hid hk
  have HN := Lib.hid hn
  clear hs hf h8 hk hn
  go_enter Tryz.func112, Tryz.ntmps112
  go_wp2_with (first
    | (go_at_call 160; refine (rformed8_at hS.out HF.out _).mono ?_; rintro e' w' ⟨rfl, rfl⟩)
    | (go_at_call 161; refine (HD.out _ _ ?hd).mono ?_; (case hd => first | exact .inl rfl | exact .inr (.inl rfl) | exact .inr (.inr rfl)); rintro e' w' ⟨rfl, rfl⟩)
    | (go_at_call 159; refine (rminor8_at hS.out HK.out _).mono ?_; rintro e' w' ⟨rfl, rfl⟩)
    | (go_at_call 108; refine (HN.out _).mono ?_; rintro e' w' ⟨rfl, rfl⟩))
  obtain ⟨Wf, hWf⟩ : ∃ Wf, Wf = w.alloc (.cells #[.string ⟨#[]⟩, .string ⟨#[]⟩, .int .i64 0, .int .i64 0, .string (⟨#[]⟩), .slice none 0 0] 24) := ⟨_, rfl⟩
  have q : Blk Wf w.heap.size #[.string ⟨#[]⟩, .string ⟨#[]⟩, .int .i64 0, .int .i64 0, .string (⟨#[]⟩), .slice none 0 0] 24 := by rw [hWf]; exact Blk.new _ _ _
  have u : Below w.heap.size w Wf := by rw [hWf]; exact ((Below.refl w.heap.size w).alloc (Nat.le_refl _) (.cells #[.string ⟨#[]⟩, .string ⟨#[]⟩, .int .i64 0, .int .i64 0, .string (⟨#[]⟩), .slice none 0 0] 24))
  rw [← hWf]
  have q0 := q.cell 0
  have q1 := q.cell 1
  have q2 := q.cell 2
  have q3 := q.cell 3
  have q4 := q.cell 4
  have q5 := q.cell 5
  simp only [List.getElem?_toArray, List.getElem?_cons_zero, List.getElem?_cons_succ] at q0 q1 q2 q3 q4 q5
  exact bodyPost_ret (v := .tuple #[.agg #[.string ⟨#[]⟩, .string ⟨#[]⟩, .int .i64 0, .int .i64 0, .string (⟨#[]⟩), .slice none 0 0], .int .i64 12]) (by simp [results, Tryz.results112, go_sem, q0, q1, q2, q3, q4, q5]) rfl ⟨rfl, u⟩
set_option maxRecDepth 100000 in
set_option maxHeartbeats 4000000 in
theorem rstatus_F13 (s : ByteArray) (hs : s.size ≤ 100000) (w : World) (hsz : 12 < s.size) (hf : vform (hd8 s) = true) (h8 : bt s 8 = 32) (g9 : isDg (bt s 9) = true) (g10 : isDg (bt s 10) = true) (g11 : isDg (bt s 11) = true) (h12 : bt s 12 = 32) {k' f : Int} (hk : vminor (hd8 s) = (k', f)) (hfe : f ≠ 0) :
    Calls Tryz.prog 112 #[.string s] w fun o w' => o = .returned (.tuple #[.agg #[.string ⟨#[]⟩, .string ⟨#[]⟩, .int .i64 0, .int .i64 0, .string (⟨#[]⟩), .slice none 0 0], .int .i64 f]) ∧ Below w.heap.size w w' := by
  have hsi : (s.size : Int) ≤ 100000 := by omega
  have hsj : (12 : Int) ≤ s.size := by omega
  have hlt : decide ((s.size : Int) < 12) = false := by rw [decide_eq_false_iff_not]; omega
  have hsk : (12 : Int) < s.size := by omega
  have i8 : ∀ W : World, (Instr.index 9 (.string s) (.int .i64 8)).run Tryz.prog W = .ok (.int .u8 32) W := index_at s 8 (by omega) h8.symm
  obtain ⟨b9, hb9⟩ : ∃ b, b = bt s 9 := ⟨_, rfl⟩
  have i9 : ∀ W : World, (Instr.index 9 (.string s) (.int .i64 9)).run Tryz.prog W = .ok (.int .u8 b9) W := index_at s 9 (by omega) hb9
  have r9 := Lib.hid (bt_range s 9)
  rw [← hb9] at g9 r9
  have G9 := Lib.hid g9
  clear hb9 g9
  obtain ⟨b10, hb10⟩ : ∃ b, b = bt s 10 := ⟨_, rfl⟩
  have i10 : ∀ W : World, (Instr.index 9 (.string s) (.int .i64 10)).run Tryz.prog W = .ok (.int .u8 b10) W := index_at s 10 (by omega) hb10
  have r10 := Lib.hid (bt_range s 10)
  rw [← hb10] at g10 r10
  have G10 := Lib.hid g10
  clear hb10 g10
  obtain ⟨b11, hb11⟩ : ∃ b, b = bt s 11 := ⟨_, rfl⟩
  have i11 : ∀ W : World, (Instr.index 9 (.string s) (.int .i64 11)).run Tryz.prog W = .ok (.int .u8 b11) W := index_at s 11 (by omega) hb11
  have r11 := Lib.hid (bt_range s 11)
  rw [← hb11] at g11 r11
  have G11 := Lib.hid g11
  clear hb11 g11
  have i12 : ∀ W : World, (Instr.index 9 (.string s) (.int .i64 12)).run Tryz.prog W = .ok (.int .u8 32) W := index_at s 12 (by omega) h12.symm
  have nf : (f == 0) = false := by rw [beq_eq_false_iff_ne]; exact hfe
  have nf2 : (f != 0) = true := by rw [bne_iff_ne]; exact hfe
  have hS : Hid (s.size ≤ 9223372036854775807) := by show s.size ≤ 9223372036854775807; omega
  have HF := Lib.hid hf
  have HD : Hid (∀ (r : Int) (W : World), (r = b9 ∨ r = b10 ∨ r = b11) → Calls Tryz.prog 161 #[.int .u8 r] W fun e w' => e = .returned (.bool (isDg r)) ∧ W = w') := by
    show ∀ (r : Int) (W : World), (r = b9 ∨ r = b10 ∨ r = b11) → Calls Tryz.prog 161 #[.int .u8 r] W fun e w' => e = .returned (.bool (isDg r)) ∧ W = w'
    rintro r W (rfl | rfl | rfl)
    · exact rdigit15_at rfl r9.out W
    · exact rdigit15_at rfl r10.out W
    · exact rdigit15_at rfl r11.out W
  have d9 : isDg b9 = true := G9.out
  have d10 : isDg b10 = true := G10.out
  have d11 : isDg b11 = true := G11.out
  clear G9 r9 G10 r10 G11 r11
  have HK := Lib.hid hk
  clear hs hf h8 h12 hfe hk
  go_enter Tryz.func112, Tryz.ntmps112
  go_wp2_with (first
    | (go_at_call 160; refine (rformed8_at hS.out HF.out _).mono ?_; rintro e' w' ⟨rfl, rfl⟩)
    | (go_at_call 161; refine (HD.out _ _ ?hd).mono ?_; (case hd => first | exact .inl rfl | exact .inr (.inl rfl) | exact .inr (.inr rfl)); rintro e' w' ⟨rfl, rfl⟩)
    | (go_at_call 159; refine (rminor8_at hS.out HK.out _).mono ?_; rintro e' w' ⟨rfl, rfl⟩))
  obtain ⟨Wf, hWf⟩ : ∃ Wf, Wf = w.alloc (.cells #[.string ⟨#[]⟩, .string ⟨#[]⟩, .int .i64 0, .int .i64 0, .string (⟨#[]⟩), .slice none 0 0] 24) := ⟨_, rfl⟩
  have q : Blk Wf w.heap.size #[.string ⟨#[]⟩, .string ⟨#[]⟩, .int .i64 0, .int .i64 0, .string (⟨#[]⟩), .slice none 0 0] 24 := by rw [hWf]; exact Blk.new _ _ _
  have u : Below w.heap.size w Wf := by rw [hWf]; exact ((Below.refl w.heap.size w).alloc (Nat.le_refl _) (.cells #[.string ⟨#[]⟩, .string ⟨#[]⟩, .int .i64 0, .int .i64 0, .string (⟨#[]⟩), .slice none 0 0] 24))
  rw [← hWf]
  have q0 := q.cell 0
  have q1 := q.cell 1
  have q2 := q.cell 2
  have q3 := q.cell 3
  have q4 := q.cell 4
  have q5 := q.cell 5
  simp only [List.getElem?_toArray, List.getElem?_cons_zero, List.getElem?_cons_succ] at q0 q1 q2 q3 q4 q5
  exact bodyPost_ret (v := .tuple #[.agg #[.string ⟨#[]⟩, .string ⟨#[]⟩, .int .i64 0, .int .i64 0, .string (⟨#[]⟩), .slice none 0 0], .int .i64 f]) (by simp [results, Tryz.results112, go_sem, q0, q1, q2, q3, q4, q5]) rfl ⟨rfl, u⟩
set_option maxRecDepth 100000 in
set_option maxHeartbeats 4000000 in
theorem rstatus_G13 (s : ByteArray) (hs : s.size ≤ 100000) (w : World) (hsz : 12 < s.size) (hf : vform (hd8 s) = true) (h8 : bt s 8 = 32) (g9 : isDg (bt s 9) = true) (g10 : isDg (bt s 10) = true) (g11 : isDg (bt s 11) = true) (h12 : bt s 12 = 32) {k : Int} (hk : vminor (hd8 s) = (k, 0)) {n : Int} (hn : ∀ W : World, Calls Tryz.prog 108 #[.string (s.extract 9 12), .int .i64 10, .int .i64 999] W fun r w' => r = .returned (.tuple #[.int .i64 n, .int .i64 0]) ∧ W = w') (hn1 : n < 100) :
    Calls Tryz.prog 112 #[.string s] w fun o w' => o = .returned (.tuple #[.agg #[.string ⟨#[]⟩, .string ⟨#[]⟩, .int .i64 0, .int .i64 0, .string (⟨#[]⟩), .slice none 0 0], .int .i64 12]) ∧ Below w.heap.size w w' := by
  have hsi : (s.size : Int) ≤ 100000 := by omega
  have hsj : (12 : Int) ≤ s.size := by omega
  have hlt : decide ((s.size : Int) < 12) = false := by rw [decide_eq_false_iff_not]; omega
  have hsk : (12 : Int) < s.size := by omega
  have i8 : ∀ W : World, (Instr.index 9 (.string s) (.int .i64 8)).run Tryz.prog W = .ok (.int .u8 32) W := index_at s 8 (by omega) h8.symm
  obtain ⟨b9, hb9⟩ : ∃ b, b = bt s 9 := ⟨_, rfl⟩
  have i9 : ∀ W : World, (Instr.index 9 (.string s) (.int .i64 9)).run Tryz.prog W = .ok (.int .u8 b9) W := index_at s 9 (by omega) hb9
  have r9 := Lib.hid (bt_range s 9)
  rw [← hb9] at g9 r9
  have G9 := Lib.hid g9
  clear hb9 g9
  obtain ⟨b10, hb10⟩ : ∃ b, b = bt s 10 := ⟨_, rfl⟩
  have i10 : ∀ W : World, (Instr.index 9 (.string s) (.int .i64 10)).run Tryz.prog W = .ok (.int .u8 b10) W := index_at s 10 (by omega) hb10
  have r10 := Lib.hid (bt_range s 10)
  rw [← hb10] at g10 r10
  have G10 := Lib.hid g10
  clear hb10 g10
  obtain ⟨b11, hb11⟩ : ∃ b, b = bt s 11 := ⟨_, rfl⟩
  have i11 : ∀ W : World, (Instr.index 9 (.string s) (.int .i64 11)).run Tryz.prog W = .ok (.int .u8 b11) W := index_at s 11 (by omega) hb11
  have r11 := Lib.hid (bt_range s 11)
  rw [← hb11] at g11 r11
  have G11 := Lib.hid g11
  clear hb11 g11
  have i12 : ∀ W : World, (Instr.index 9 (.string s) (.int .i64 12)).run Tryz.prog W = .ok (.int .u8 32) W := index_at s 12 (by omega) h12.symm
  have hS : Hid (s.size ≤ 9223372036854775807) := by show s.size ≤ 9223372036854775807; omega
  have HF := Lib.hid hf
  have HD : Hid (∀ (r : Int) (W : World), (r = b9 ∨ r = b10 ∨ r = b11) → Calls Tryz.prog 161 #[.int .u8 r] W fun e w' => e = .returned (.bool (isDg r)) ∧ W = w') := by
    show ∀ (r : Int) (W : World), (r = b9 ∨ r = b10 ∨ r = b11) → Calls Tryz.prog 161 #[.int .u8 r] W fun e w' => e = .returned (.bool (isDg r)) ∧ W = w'
    rintro r W (rfl | rfl | rfl)
    · exact rdigit15_at rfl r9.out W
    · exact rdigit15_at rfl r10.out W
    · exact rdigit15_at rfl r11.out W
  have d9 : isDg b9 = true := G9.out
  have d10 : isDg b10 = true := G10.out
  have d11 : isDg b11 = true := G11.out
  clear G9 r9 G10 r10 G11 r11
  have HK := Lib.hid hk
  have HN := Lib.hid hn
  clear hs hf h8 h12 hk hn
  go_enter Tryz.func112, Tryz.ntmps112
  go_wp2_with (first
    | (go_at_call 160; refine (rformed8_at hS.out HF.out _).mono ?_; rintro e' w' ⟨rfl, rfl⟩)
    | (go_at_call 161; refine (HD.out _ _ ?hd).mono ?_; (case hd => first | exact .inl rfl | exact .inr (.inl rfl) | exact .inr (.inr rfl)); rintro e' w' ⟨rfl, rfl⟩)
    | (go_at_call 159; refine (rminor8_at hS.out HK.out _).mono ?_; rintro e' w' ⟨rfl, rfl⟩)
    | (go_at_call 108; refine (HN.out _).mono ?_; rintro e' w' ⟨rfl, rfl⟩))
  obtain ⟨Wf, hWf⟩ : ∃ Wf, Wf = w.alloc (.cells #[.string ⟨#[]⟩, .string ⟨#[]⟩, .int .i64 0, .int .i64 0, .string (⟨#[]⟩), .slice none 0 0] 24) := ⟨_, rfl⟩
  have q : Blk Wf w.heap.size #[.string ⟨#[]⟩, .string ⟨#[]⟩, .int .i64 0, .int .i64 0, .string (⟨#[]⟩), .slice none 0 0] 24 := by rw [hWf]; exact Blk.new _ _ _
  have u : Below w.heap.size w Wf := by rw [hWf]; exact ((Below.refl w.heap.size w).alloc (Nat.le_refl _) (.cells #[.string ⟨#[]⟩, .string ⟨#[]⟩, .int .i64 0, .int .i64 0, .string (⟨#[]⟩), .slice none 0 0] 24))
  rw [← hWf]
  have q0 := q.cell 0
  have q1 := q.cell 1
  have q2 := q.cell 2
  have q3 := q.cell 3
  have q4 := q.cell 4
  have q5 := q.cell 5
  simp only [List.getElem?_toArray, List.getElem?_cons_zero, List.getElem?_cons_succ] at q0 q1 q2 q3 q4 q5
  exact bodyPost_ret (v := .tuple #[.agg #[.string ⟨#[]⟩, .string ⟨#[]⟩, .int .i64 0, .int .i64 0, .string (⟨#[]⟩), .slice none 0 0], .int .i64 12]) (by simp [results, Tryz.results112, go_sem, q0, q1, q2, q3, q4, q5]) rfl ⟨rfl, u⟩
set_option maxRecDepth 100000 in
set_option maxHeartbeats 4000000 in
theorem rstatus_H13 (s : ByteArray) (hs : s.size ≤ 100000) (w : World) (hsz : 12 < s.size) (hf : vform (hd8 s) = true) (h8 : bt s 8 = 32) (g9 : isDg (bt s 9) = true) (g10 : isDg (bt s 10) = true) (g11 : isDg (bt s 11) = true) (h12 : bt s 12 = 32) {k : Int} (hk : vminor (hd8 s) = (k, 0)) {n : Int} (hn : ∀ W : World, Calls Tryz.prog 108 #[.string (s.extract 9 12), .int .i64 10, .int .i64 999] W fun r w' => r = .returned (.tuple #[.int .i64 n, .int .i64 0]) ∧ W = w') (hn1 : 599 < n) :
    Calls Tryz.prog 112 #[.string s] w fun o w' => o = .returned (.tuple #[.agg #[.string ⟨#[]⟩, .string ⟨#[]⟩, .int .i64 0, .int .i64 0, .string (⟨#[]⟩), .slice none 0 0], .int .i64 12]) ∧ Below w.heap.size w w' := by
  have hsi : (s.size : Int) ≤ 100000 := by omega
  have hsj : (12 : Int) ≤ s.size := by omega
  have hlt : decide ((s.size : Int) < 12) = false := by rw [decide_eq_false_iff_not]; omega
  have hsk : (12 : Int) < s.size := by omega
  have i8 : ∀ W : World, (Instr.index 9 (.string s) (.int .i64 8)).run Tryz.prog W = .ok (.int .u8 32) W := index_at s 8 (by omega) h8.symm
  obtain ⟨b9, hb9⟩ : ∃ b, b = bt s 9 := ⟨_, rfl⟩
  have i9 : ∀ W : World, (Instr.index 9 (.string s) (.int .i64 9)).run Tryz.prog W = .ok (.int .u8 b9) W := index_at s 9 (by omega) hb9
  have r9 := Lib.hid (bt_range s 9)
  rw [← hb9] at g9 r9
  have G9 := Lib.hid g9
  clear hb9 g9
  obtain ⟨b10, hb10⟩ : ∃ b, b = bt s 10 := ⟨_, rfl⟩
  have i10 : ∀ W : World, (Instr.index 9 (.string s) (.int .i64 10)).run Tryz.prog W = .ok (.int .u8 b10) W := index_at s 10 (by omega) hb10
  have r10 := Lib.hid (bt_range s 10)
  rw [← hb10] at g10 r10
  have G10 := Lib.hid g10
  clear hb10 g10
  obtain ⟨b11, hb11⟩ : ∃ b, b = bt s 11 := ⟨_, rfl⟩
  have i11 : ∀ W : World, (Instr.index 9 (.string s) (.int .i64 11)).run Tryz.prog W = .ok (.int .u8 b11) W := index_at s 11 (by omega) hb11
  have r11 := Lib.hid (bt_range s 11)
  rw [← hb11] at g11 r11
  have G11 := Lib.hid g11
  clear hb11 g11
  have i12 : ∀ W : World, (Instr.index 9 (.string s) (.int .i64 12)).run Tryz.prog W = .ok (.int .u8 32) W := index_at s 12 (by omega) h12.symm
  have hn0 : decide (n < 100) = false := by rw [decide_eq_false_iff_not]; omega
  have hS : Hid (s.size ≤ 9223372036854775807) := by show s.size ≤ 9223372036854775807; omega
  have HF := Lib.hid hf
  have HD : Hid (∀ (r : Int) (W : World), (r = b9 ∨ r = b10 ∨ r = b11) → Calls Tryz.prog 161 #[.int .u8 r] W fun e w' => e = .returned (.bool (isDg r)) ∧ W = w') := by
    show ∀ (r : Int) (W : World), (r = b9 ∨ r = b10 ∨ r = b11) → Calls Tryz.prog 161 #[.int .u8 r] W fun e w' => e = .returned (.bool (isDg r)) ∧ W = w'
    rintro r W (rfl | rfl | rfl)
    · exact rdigit15_at rfl r9.out W
    · exact rdigit15_at rfl r10.out W
    · exact rdigit15_at rfl r11.out W
  have d9 : isDg b9 = true := G9.out
  have d10 : isDg b10 = true := G10.out
  have d11 : isDg b11 = true := G11.out
  clear G9 r9 G10 r10 G11 r11
  have HK := Lib.hid hk
  have HN := Lib.hid hn
  clear hs hf h8 h12 hk hn
  go_enter Tryz.func112, Tryz.ntmps112
  go_wp2_with (first
    | (go_at_call 160; refine (rformed8_at hS.out HF.out _).mono ?_; rintro e' w' ⟨rfl, rfl⟩)
    | (go_at_call 161; refine (HD.out _ _ ?hd).mono ?_; (case hd => first | exact .inl rfl | exact .inr (.inl rfl) | exact .inr (.inr rfl)); rintro e' w' ⟨rfl, rfl⟩)
    | (go_at_call 159; refine (rminor8_at hS.out HK.out _).mono ?_; rintro e' w' ⟨rfl, rfl⟩)
    | (go_at_call 108; refine (HN.out _).mono ?_; rintro e' w' ⟨rfl, rfl⟩))
  obtain ⟨Wf, hWf⟩ : ∃ Wf, Wf = w.alloc (.cells #[.string ⟨#[]⟩, .string ⟨#[]⟩, .int .i64 0, .int .i64 0, .string (⟨#[]⟩), .slice none 0 0] 24) := ⟨_, rfl⟩
  have q : Blk Wf w.heap.size #[.string ⟨#[]⟩, .string ⟨#[]⟩, .int .i64 0, .int .i64 0, .string (⟨#[]⟩), .slice none 0 0] 24 := by rw [hWf]; exact Blk.new _ _ _
  have u : Below w.heap.size w Wf := by rw [hWf]; exact ((Below.refl w.heap.size w).alloc (Nat.le_refl _) (.cells #[.string ⟨#[]⟩, .string ⟨#[]⟩, .int .i64 0, .int .i64 0, .string (⟨#[]⟩), .slice none 0 0] 24))
  rw [← hWf]
  have q0 := q.cell 0
  have q1 := q.cell 1
  have q2 := q.cell 2
  have q3 := q.cell 3
  have q4 := q.cell 4
  have q5 := q.cell 5
  simp only [List.getElem?_toArray, List.getElem?_cons_zero, List.getElem?_cons_succ] at q0 q1 q2 q3 q4 q5
  exact bodyPost_ret (v := .tuple #[.agg #[.string ⟨#[]⟩, .string ⟨#[]⟩, .int .i64 0, .int .i64 0, .string (⟨#[]⟩), .slice none 0 0], .int .i64 12]) (by simp [results, Tryz.results112, go_sem, q0, q1, q2, q3, q4, q5]) rfl ⟨rfl, u⟩
set_option maxRecDepth 100000 in
set_option maxHeartbeats 4000000 in
theorem rstatus_I (s : ByteArray) (hs : s.size ≤ 100000) (w : World) (hsz : 13 < s.size) (hf : vform (hd8 s) = true) (h8 : bt s 8 = 32) (g9 : isDg (bt s 9) = true) (g10 : isDg (bt s 10) = true) (g11 : isDg (bt s 11) = true) (h12 : bt s 12 = 32) {k : Int} (hk : vminor (hd8 s) = (k, 0)) {n : Int} (hn : ∀ W : World, Calls Tryz.prog 108 #[.string (s.extract 9 12), .int .i64 10, .int .i64 999] W fun r w' => r = .returned (.tuple #[.int .i64 n, .int .i64 0]) ∧ W = w') (hn1 : 100 ≤ n) (hn2 : n ≤ 599) (hv : ∀ W : World, Calls Tryz.prog 95 #[.string (s.extract 13 s.size)] W fun r w' => r = .returned (.bool false) ∧ W = w') :
    Calls Tryz.prog 112 #[.string s] w fun o w' => o = .returned (.tuple #[.agg #[.string ⟨#[]⟩, .string ⟨#[]⟩, .int .i64 0, .int .i64 0, .string (⟨#[]⟩), .slice none 0 0], .int .i64 7]) ∧ Below w.heap.size w w' := by
  have hsi : (s.size : Int) ≤ 100000 := by omega
  have hsj : (12 : Int) ≤ s.size := by omega
  have hlt : decide ((s.size : Int) < 12) = false := by rw [decide_eq_false_iff_not]; omega
  have hsk : (12 : Int) < s.size := by omega
  have hsl : (13 : Int) < s.size := by omega
  have i8 : ∀ W : World, (Instr.index 9 (.string s) (.int .i64 8)).run Tryz.prog W = .ok (.int .u8 32) W := index_at s 8 (by omega) h8.symm
  obtain ⟨b9, hb9⟩ : ∃ b, b = bt s 9 := ⟨_, rfl⟩
  have i9 : ∀ W : World, (Instr.index 9 (.string s) (.int .i64 9)).run Tryz.prog W = .ok (.int .u8 b9) W := index_at s 9 (by omega) hb9
  have r9 := Lib.hid (bt_range s 9)
  rw [← hb9] at g9 r9
  have G9 := Lib.hid g9
  clear hb9 g9
  obtain ⟨b10, hb10⟩ : ∃ b, b = bt s 10 := ⟨_, rfl⟩
  have i10 : ∀ W : World, (Instr.index 9 (.string s) (.int .i64 10)).run Tryz.prog W = .ok (.int .u8 b10) W := index_at s 10 (by omega) hb10
  have r10 := Lib.hid (bt_range s 10)
  rw [← hb10] at g10 r10
  have G10 := Lib.hid g10
  clear hb10 g10
  obtain ⟨b11, hb11⟩ : ∃ b, b = bt s 11 := ⟨_, rfl⟩
  have i11 : ∀ W : World, (Instr.index 9 (.string s) (.int .i64 11)).run Tryz.prog W = .ok (.int .u8 b11) W := index_at s 11 (by omega) hb11
  have r11 := Lib.hid (bt_range s 11)
  rw [← hb11] at g11 r11
  have G11 := Lib.hid g11
  clear hb11 g11
  have i12 : ∀ W : World, (Instr.index 9 (.string s) (.int .i64 12)).run Tryz.prog W = .ok (.int .u8 32) W := index_at s 12 (by omega) h12.symm
  have hn3 : decide (n < 100) = false := by rw [decide_eq_false_iff_not]; omega
  have hn4 : decide (599 < n) = false := by rw [decide_eq_false_iff_not]; omega
  have hS : Hid (s.size ≤ 9223372036854775807) := by show s.size ≤ 9223372036854775807; omega
  have HF := Lib.hid hf
  have HD : Hid (∀ (r : Int) (W : World), (r = b9 ∨ r = b10 ∨ r = b11) → Calls Tryz.prog 161 #[.int .u8 r] W fun e w' => e = .returned (.bool (isDg r)) ∧ W = w') := by
    show ∀ (r : Int) (W : World), (r = b9 ∨ r = b10 ∨ r = b11) → Calls Tryz.prog 161 #[.int .u8 r] W fun e w' => e = .returned (.bool (isDg r)) ∧ W = w'
    rintro r W (rfl | rfl | rfl)
    · exact rdigit15_at rfl r9.out W
    · exact rdigit15_at rfl r10.out W
    · exact rdigit15_at rfl r11.out W
  have d9 : isDg b9 = true := G9.out
  have d10 : isDg b10 = true := G10.out
  have d11 : isDg b11 = true := G11.out
  clear G9 r9 G10 r10 G11 r11
  have HK := Lib.hid hk
  have HN := Lib.hid hn
  have HV := Lib.hid hv
  clear hs hf h8 h12 hk hn hv
  go_enter Tryz.func112, Tryz.ntmps112
  go_wp2_with (first
    | (go_at_call 160; refine (rformed8_at hS.out HF.out _).mono ?_; rintro e' w' ⟨rfl, rfl⟩)
    | (go_at_call 161; refine (HD.out _ _ ?hd).mono ?_; (case hd => first | exact .inl rfl | exact .inr (.inl rfl) | exact .inr (.inr rfl)); rintro e' w' ⟨rfl, rfl⟩)
    | (go_at_call 159; refine (rminor8_at hS.out HK.out _).mono ?_; rintro e' w' ⟨rfl, rfl⟩)
    | (go_at_call 108; refine (HN.out _).mono ?_; rintro e' w' ⟨rfl, rfl⟩)
    | (go_at_call 95; refine (HV.out _).mono ?_; rintro e' w' ⟨rfl, rfl⟩))
  obtain ⟨Wf, hWf⟩ : ∃ Wf, Wf = (w.alloc (.cells #[.string ⟨#[]⟩, .string ⟨#[]⟩, .int .i64 0, .int .i64 0, .string (⟨#[]⟩), .slice none 0 0] 24)).alloc (.cells #[.string ⟨#[]⟩, .string ⟨#[]⟩, .int .i64 k, .int .i64 n, .string (s.extract 13 s.size), .slice none 0 0] 24) := ⟨_, rfl⟩
  have q : Blk Wf w.heap.size #[.string ⟨#[]⟩, .string ⟨#[]⟩, .int .i64 0, .int .i64 0, .string (⟨#[]⟩), .slice none 0 0] 24 := by rw [hWf]; exact (Blk.new w #[.string ⟨#[]⟩, .string ⟨#[]⟩, .int .i64 0, .int .i64 0, .string (⟨#[]⟩), .slice none 0 0] 24).alloc (.cells #[.string ⟨#[]⟩, .string ⟨#[]⟩, .int .i64 k, .int .i64 n, .string (s.extract 13 s.size), .slice none 0 0] 24)
  have u : Below w.heap.size w Wf := by rw [hWf]; exact ((Below.refl w.heap.size w).alloc (Nat.le_refl _) (.cells #[.string ⟨#[]⟩, .string ⟨#[]⟩, .int .i64 0, .int .i64 0, .string (⟨#[]⟩), .slice none 0 0] 24)).alloc (by simp) (.cells #[.string ⟨#[]⟩, .string ⟨#[]⟩, .int .i64 k, .int .i64 n, .string (s.extract 13 s.size), .slice none 0 0] 24)
  rw [← hWf]
  have q0 := q.cell 0
  have q1 := q.cell 1
  have q2 := q.cell 2
  have q3 := q.cell 3
  have q4 := q.cell 4
  have q5 := q.cell 5
  simp only [List.getElem?_toArray, List.getElem?_cons_zero, List.getElem?_cons_succ] at q0 q1 q2 q3 q4 q5
  exact bodyPost_ret (v := .tuple #[.agg #[.string ⟨#[]⟩, .string ⟨#[]⟩, .int .i64 0, .int .i64 0, .string (⟨#[]⟩), .slice none 0 0], .int .i64 7]) (by simp [results, Tryz.results112, go_sem, q0, q1, q2, q3, q4, q5]) rfl ⟨rfl, u⟩
set_option maxRecDepth 100000 in
set_option maxHeartbeats 4000000 in
theorem rstatus_J12 (s : ByteArray) (hs : s.size ≤ 100000) (w : World) (hsz : s.size = 12) (hf : vform (hd8 s) = true) (h8 : bt s 8 = 32) (g9 : isDg (bt s 9) = true) (g10 : isDg (bt s 10) = true) (g11 : isDg (bt s 11) = true) {k : Int} (hk : vminor (hd8 s) = (k, 0)) {n : Int} (hn : ∀ W : World, Calls Tryz.prog 108 #[.string (s.extract 9 12), .int .i64 10, .int .i64 999] W fun r w' => r = .returned (.tuple #[.int .i64 n, .int .i64 0]) ∧ W = w') (hn1 : 100 ≤ n) (hn2 : n ≤ 599) (hv : ∀ W : World, Calls Tryz.prog 95 #[.string (⟨#[]⟩)] W fun r w' => r = .returned (.bool true) ∧ W = w') :
    Calls Tryz.prog 112 #[.string s] w fun o w' => o = .returned (.tuple #[.agg #[.string ⟨#[]⟩, .string ⟨#[]⟩, .int .i64 k, .int .i64 n, .string (⟨#[]⟩), .slice none 0 0], .int .i64 0]) ∧ Below w.heap.size w w' := by
  have hsi : (s.size : Int) ≤ 100000 := by omega
  have hsj : (12 : Int) ≤ s.size := by omega
  have hlt : decide ((s.size : Int) < 12) = false := by rw [decide_eq_false_iff_not]; omega
  have hsk : decide ((12 : Int) < s.size) = false := by rw [decide_eq_false_iff_not]; omega
  have hsl : decide ((13 : Int) < s.size) = false := by rw [decide_eq_false_iff_not]; omega
  have i8 : ∀ W : World, (Instr.index 9 (.string s) (.int .i64 8)).run Tryz.prog W = .ok (.int .u8 32) W := index_at s 8 (by omega) h8.symm
  obtain ⟨b9, hb9⟩ : ∃ b, b = bt s 9 := ⟨_, rfl⟩
  have i9 : ∀ W : World, (Instr.index 9 (.string s) (.int .i64 9)).run Tryz.prog W = .ok (.int .u8 b9) W := index_at s 9 (by omega) hb9
  have r9 := Lib.hid (bt_range s 9)
  rw [← hb9] at g9 r9
  have G9 := Lib.hid g9
  clear hb9 g9
  obtain ⟨b10, hb10⟩ : ∃ b, b = bt s 10 := ⟨_, rfl⟩
  have i10 : ∀ W : World, (Instr.index 9 (.string s) (.int .i64 10)).run Tryz.prog W = .ok (.int .u8 b10) W := index_at s 10 (by omega) hb10
  have r10 := Lib.hid (bt_range s 10)
  rw [← hb10] at g10 r10
  have G10 := Lib.hid g10
  clear hb10 g10
  obtain ⟨b11, hb11⟩ : ∃ b, b = bt s 11 := ⟨_, rfl⟩
  have i11 : ∀ W : World, (Instr.index 9 (.string s) (.int .i64 11)).run Tryz.prog W = .ok (.int .u8 b11) W := index_at s 11 (by omega) hb11
  have r11 := Lib.hid (bt_range s 11)
  rw [← hb11] at g11 r11
  have G11 := Lib.hid g11
  clear hb11 g11
  have hn3 : decide (n < 100) = false := by rw [decide_eq_false_iff_not]; omega
  have hn4 : decide (599 < n) = false := by rw [decide_eq_false_iff_not]; omega
  have hS : Hid (s.size ≤ 9223372036854775807) := by show s.size ≤ 9223372036854775807; omega
  have HF := Lib.hid hf
  have HD : Hid (∀ (r : Int) (W : World), (r = b9 ∨ r = b10 ∨ r = b11) → Calls Tryz.prog 161 #[.int .u8 r] W fun e w' => e = .returned (.bool (isDg r)) ∧ W = w') := by
    show ∀ (r : Int) (W : World), (r = b9 ∨ r = b10 ∨ r = b11) → Calls Tryz.prog 161 #[.int .u8 r] W fun e w' => e = .returned (.bool (isDg r)) ∧ W = w'
    rintro r W (rfl | rfl | rfl)
    · exact rdigit15_at rfl r9.out W
    · exact rdigit15_at rfl r10.out W
    · exact rdigit15_at rfl r11.out W
  have d9 : isDg b9 = true := G9.out
  have d10 : isDg b10 = true := G10.out
  have d11 : isDg b11 = true := G11.out
  clear G9 r9 G10 r10 G11 r11
  have HK := Lib.hid hk
  have HN := Lib.hid hn
  have HV := Lib.hid hv
  clear hs hf h8 hk hn hv
  go_enter Tryz.func112, Tryz.ntmps112
  go_wp2_with (first
    | (go_at_call 160; refine (rformed8_at hS.out HF.out _).mono ?_; rintro e' w' ⟨rfl, rfl⟩)
    | (go_at_call 161; refine (HD.out _ _ ?hd).mono ?_; (case hd => first | exact .inl rfl | exact .inr (.inl rfl) | exact .inr (.inr rfl)); rintro e' w' ⟨rfl, rfl⟩)
    | (go_at_call 159; refine (rminor8_at hS.out HK.out _).mono ?_; rintro e' w' ⟨rfl, rfl⟩)
    | (go_at_call 108; refine (HN.out _).mono ?_; rintro e' w' ⟨rfl, rfl⟩)
    | (go_at_call 95; refine (HV.out _).mono ?_; rintro e' w' ⟨rfl, rfl⟩))
  obtain ⟨Wf, hWf⟩ : ∃ Wf, Wf = (w.alloc (.cells #[.string ⟨#[]⟩, .string ⟨#[]⟩, .int .i64 k, .int .i64 n, .string (⟨#[]⟩), .slice none 0 0] 24)).alloc (.cells #[.string ⟨#[]⟩, .string ⟨#[]⟩, .int .i64 k, .int .i64 n, .string (⟨#[]⟩), .slice none 0 0] 24) := ⟨_, rfl⟩
  have q : Blk Wf w.heap.size #[.string ⟨#[]⟩, .string ⟨#[]⟩, .int .i64 k, .int .i64 n, .string (⟨#[]⟩), .slice none 0 0] 24 := by rw [hWf]; exact (Blk.new w #[.string ⟨#[]⟩, .string ⟨#[]⟩, .int .i64 k, .int .i64 n, .string (⟨#[]⟩), .slice none 0 0] 24).alloc (.cells #[.string ⟨#[]⟩, .string ⟨#[]⟩, .int .i64 k, .int .i64 n, .string (⟨#[]⟩), .slice none 0 0] 24)
  have u : Below w.heap.size w Wf := by rw [hWf]; exact ((Below.refl w.heap.size w).alloc (Nat.le_refl _) (.cells #[.string ⟨#[]⟩, .string ⟨#[]⟩, .int .i64 k, .int .i64 n, .string (⟨#[]⟩), .slice none 0 0] 24)).alloc (by simp) (.cells #[.string ⟨#[]⟩, .string ⟨#[]⟩, .int .i64 k, .int .i64 n, .string (⟨#[]⟩), .slice none 0 0] 24)
  rw [← hWf]
  have q0 := q.cell 0
  have q1 := q.cell 1
  have q2 := q.cell 2
  have q3 := q.cell 3
  have q4 := q.cell 4
  have q5 := q.cell 5
  simp only [List.getElem?_toArray, List.getElem?_cons_zero, List.getElem?_cons_succ] at q0 q1 q2 q3 q4 q5
  exact bodyPost_ret (v := .tuple #[.agg #[.string ⟨#[]⟩, .string ⟨#[]⟩, .int .i64 k, .int .i64 n, .string (⟨#[]⟩), .slice none 0 0], .int .i64 0]) (by simp [results, Tryz.results112, go_sem, q0, q1, q2, q3, q4, q5]) rfl ⟨rfl, u⟩
set_option maxRecDepth 100000 in
set_option maxHeartbeats 4000000 in
theorem rstatus_J13 (s : ByteArray) (hs : s.size ≤ 100000) (w : World) (hsz : s.size = 13) (hf : vform (hd8 s) = true) (h8 : bt s 8 = 32) (g9 : isDg (bt s 9) = true) (g10 : isDg (bt s 10) = true) (g11 : isDg (bt s 11) = true) (h12 : bt s 12 = 32) {k : Int} (hk : vminor (hd8 s) = (k, 0)) {n : Int} (hn : ∀ W : World, Calls Tryz.prog 108 #[.string (s.extract 9 12), .int .i64 10, .int .i64 999] W fun r w' => r = .returned (.tuple #[.int .i64 n, .int .i64 0]) ∧ W = w') (hn1 : 100 ≤ n) (hn2 : n ≤ 599) (hv : ∀ W : World, Calls Tryz.prog 95 #[.string (⟨#[]⟩)] W fun r w' => r = .returned (.bool true) ∧ W = w') :
    Calls Tryz.prog 112 #[.string s] w fun o w' => o = .returned (.tuple #[.agg #[.string ⟨#[]⟩, .string ⟨#[]⟩, .int .i64 k, .int .i64 n, .string (⟨#[]⟩), .slice none 0 0], .int .i64 0]) ∧ Below w.heap.size w w' := by
  have hsi : (s.size : Int) ≤ 100000 := by omega
  have hsj : (12 : Int) ≤ s.size := by omega
  have hlt : decide ((s.size : Int) < 12) = false := by rw [decide_eq_false_iff_not]; omega
  have hsk : (12 : Int) < s.size := by omega
  have hsl : decide ((13 : Int) < s.size) = false := by rw [decide_eq_false_iff_not]; omega
  have i8 : ∀ W : World, (Instr.index 9 (.string s) (.int .i64 8)).run Tryz.prog W = .ok (.int .u8 32) W := index_at s 8 (by omega) h8.symm
  obtain ⟨b9, hb9⟩ : ∃ b, b = bt s 9 := ⟨_, rfl⟩
  have i9 : ∀ W : World, (Instr.index 9 (.string s) (.int .i64 9)).run Tryz.prog W = .ok (.int .u8 b9) W := index_at s 9 (by omega) hb9
  have r9 := Lib.hid (bt_range s 9)
  rw [← hb9] at g9 r9
  have G9 := Lib.hid g9
  clear hb9 g9
  obtain ⟨b10, hb10⟩ : ∃ b, b = bt s 10 := ⟨_, rfl⟩
  have i10 : ∀ W : World, (Instr.index 9 (.string s) (.int .i64 10)).run Tryz.prog W = .ok (.int .u8 b10) W := index_at s 10 (by omega) hb10
  have r10 := Lib.hid (bt_range s 10)
  rw [← hb10] at g10 r10
  have G10 := Lib.hid g10
  clear hb10 g10
  obtain ⟨b11, hb11⟩ : ∃ b, b = bt s 11 := ⟨_, rfl⟩
  have i11 : ∀ W : World, (Instr.index 9 (.string s) (.int .i64 11)).run Tryz.prog W = .ok (.int .u8 b11) W := index_at s 11 (by omega) hb11
  have r11 := Lib.hid (bt_range s 11)
  rw [← hb11] at g11 r11
  have G11 := Lib.hid g11
  clear hb11 g11
  have i12 : ∀ W : World, (Instr.index 9 (.string s) (.int .i64 12)).run Tryz.prog W = .ok (.int .u8 32) W := index_at s 12 (by omega) h12.symm
  have hn3 : decide (n < 100) = false := by rw [decide_eq_false_iff_not]; omega
  have hn4 : decide (599 < n) = false := by rw [decide_eq_false_iff_not]; omega
  have hS : Hid (s.size ≤ 9223372036854775807) := by show s.size ≤ 9223372036854775807; omega
  have HF := Lib.hid hf
  have HD : Hid (∀ (r : Int) (W : World), (r = b9 ∨ r = b10 ∨ r = b11) → Calls Tryz.prog 161 #[.int .u8 r] W fun e w' => e = .returned (.bool (isDg r)) ∧ W = w') := by
    show ∀ (r : Int) (W : World), (r = b9 ∨ r = b10 ∨ r = b11) → Calls Tryz.prog 161 #[.int .u8 r] W fun e w' => e = .returned (.bool (isDg r)) ∧ W = w'
    rintro r W (rfl | rfl | rfl)
    · exact rdigit15_at rfl r9.out W
    · exact rdigit15_at rfl r10.out W
    · exact rdigit15_at rfl r11.out W
  have d9 : isDg b9 = true := G9.out
  have d10 : isDg b10 = true := G10.out
  have d11 : isDg b11 = true := G11.out
  clear G9 r9 G10 r10 G11 r11
  have HK := Lib.hid hk
  have HN := Lib.hid hn
  have HV := Lib.hid hv
  clear hs hf h8 h12 hk hn hv
  go_enter Tryz.func112, Tryz.ntmps112
  go_wp2_with (first
    | (go_at_call 160; refine (rformed8_at hS.out HF.out _).mono ?_; rintro e' w' ⟨rfl, rfl⟩)
    | (go_at_call 161; refine (HD.out _ _ ?hd).mono ?_; (case hd => first | exact .inl rfl | exact .inr (.inl rfl) | exact .inr (.inr rfl)); rintro e' w' ⟨rfl, rfl⟩)
    | (go_at_call 159; refine (rminor8_at hS.out HK.out _).mono ?_; rintro e' w' ⟨rfl, rfl⟩)
    | (go_at_call 108; refine (HN.out _).mono ?_; rintro e' w' ⟨rfl, rfl⟩)
    | (go_at_call 95; refine (HV.out _).mono ?_; rintro e' w' ⟨rfl, rfl⟩))
  obtain ⟨Wf, hWf⟩ : ∃ Wf, Wf = (w.alloc (.cells #[.string ⟨#[]⟩, .string ⟨#[]⟩, .int .i64 k, .int .i64 n, .string (⟨#[]⟩), .slice none 0 0] 24)).alloc (.cells #[.string ⟨#[]⟩, .string ⟨#[]⟩, .int .i64 k, .int .i64 n, .string (⟨#[]⟩), .slice none 0 0] 24) := ⟨_, rfl⟩
  have q : Blk Wf w.heap.size #[.string ⟨#[]⟩, .string ⟨#[]⟩, .int .i64 k, .int .i64 n, .string (⟨#[]⟩), .slice none 0 0] 24 := by rw [hWf]; exact (Blk.new w #[.string ⟨#[]⟩, .string ⟨#[]⟩, .int .i64 k, .int .i64 n, .string (⟨#[]⟩), .slice none 0 0] 24).alloc (.cells #[.string ⟨#[]⟩, .string ⟨#[]⟩, .int .i64 k, .int .i64 n, .string (⟨#[]⟩), .slice none 0 0] 24)
  have u : Below w.heap.size w Wf := by rw [hWf]; exact ((Below.refl w.heap.size w).alloc (Nat.le_refl _) (.cells #[.string ⟨#[]⟩, .string ⟨#[]⟩, .int .i64 k, .int .i64 n, .string (⟨#[]⟩), .slice none 0 0] 24)).alloc (by simp) (.cells #[.string ⟨#[]⟩, .string ⟨#[]⟩, .int .i64 k, .int .i64 n, .string (⟨#[]⟩), .slice none 0 0] 24)
  rw [← hWf]
  have q0 := q.cell 0
  have q1 := q.cell 1
  have q2 := q.cell 2
  have q3 := q.cell 3
  have q4 := q.cell 4
  have q5 := q.cell 5
  simp only [List.getElem?_toArray, List.getElem?_cons_zero, List.getElem?_cons_succ] at q0 q1 q2 q3 q4 q5
  exact bodyPost_ret (v := .tuple #[.agg #[.string ⟨#[]⟩, .string ⟨#[]⟩, .int .i64 k, .int .i64 n, .string (⟨#[]⟩), .slice none 0 0], .int .i64 0]) (by simp [results, Tryz.results112, go_sem, q0, q1, q2, q3, q4, q5]) rfl ⟨rfl, u⟩
set_option maxRecDepth 100000 in
set_option maxHeartbeats 4000000 in
theorem rstatus_J14 (s : ByteArray) (hs : s.size ≤ 100000) (w : World) (hsz : 13 < s.size) (hf : vform (hd8 s) = true) (h8 : bt s 8 = 32) (g9 : isDg (bt s 9) = true) (g10 : isDg (bt s 10) = true) (g11 : isDg (bt s 11) = true) (h12 : bt s 12 = 32) {k : Int} (hk : vminor (hd8 s) = (k, 0)) {n : Int} (hn : ∀ W : World, Calls Tryz.prog 108 #[.string (s.extract 9 12), .int .i64 10, .int .i64 999] W fun r w' => r = .returned (.tuple #[.int .i64 n, .int .i64 0]) ∧ W = w') (hn1 : 100 ≤ n) (hn2 : n ≤ 599) (hv : ∀ W : World, Calls Tryz.prog 95 #[.string (s.extract 13 s.size)] W fun r w' => r = .returned (.bool true) ∧ W = w') :
    Calls Tryz.prog 112 #[.string s] w fun o w' => o = .returned (.tuple #[.agg #[.string ⟨#[]⟩, .string ⟨#[]⟩, .int .i64 k, .int .i64 n, .string (s.extract 13 s.size), .slice none 0 0], .int .i64 0]) ∧ Below w.heap.size w w' := by
  have hsi : (s.size : Int) ≤ 100000 := by omega
  have hsj : (12 : Int) ≤ s.size := by omega
  have hlt : decide ((s.size : Int) < 12) = false := by rw [decide_eq_false_iff_not]; omega
  have hsk : (12 : Int) < s.size := by omega
  have hsl : (13 : Int) < s.size := by omega
  have i8 : ∀ W : World, (Instr.index 9 (.string s) (.int .i64 8)).run Tryz.prog W = .ok (.int .u8 32) W := index_at s 8 (by omega) h8.symm
  obtain ⟨b9, hb9⟩ : ∃ b, b = bt s 9 := ⟨_, rfl⟩
  have i9 : ∀ W : World, (Instr.index 9 (.string s) (.int .i64 9)).run Tryz.prog W = .ok (.int .u8 b9) W := index_at s 9 (by omega) hb9
  have r9 := Lib.hid (bt_range s 9)
  rw [← hb9] at g9 r9
  have G9 := Lib.hid g9
  clear hb9 g9
  obtain ⟨b10, hb10⟩ : ∃ b, b = bt s 10 := ⟨_, rfl⟩
  have i10 : ∀ W : World, (Instr.index 9 (.string s) (.int .i64 10)).run Tryz.prog W = .ok (.int .u8 b10) W := index_at s 10 (by omega) hb10
  have r10 := Lib.hid (bt_range s 10)
  rw [← hb10] at g10 r10
  have G10 := Lib.hid g10
  clear hb10 g10
  obtain ⟨b11, hb11⟩ : ∃ b, b = bt s 11 := ⟨_, rfl⟩
  have i11 : ∀ W : World, (Instr.index 9 (.string s) (.int .i64 11)).run Tryz.prog W = .ok (.int .u8 b11) W := index_at s 11 (by omega) hb11
  have r11 := Lib.hid (bt_range s 11)
  rw [← hb11] at g11 r11
  have G11 := Lib.hid g11
  clear hb11 g11
  have i12 : ∀ W : World, (Instr.index 9 (.string s) (.int .i64 12)).run Tryz.prog W = .ok (.int .u8 32) W := index_at s 12 (by omega) h12.symm
  have hn3 : decide (n < 100) = false := by rw [decide_eq_false_iff_not]; omega
  have hn4 : decide (599 < n) = false := by rw [decide_eq_false_iff_not]; omega
  have hS : Hid (s.size ≤ 9223372036854775807) := by show s.size ≤ 9223372036854775807; omega
  have HF := Lib.hid hf
  have HD : Hid (∀ (r : Int) (W : World), (r = b9 ∨ r = b10 ∨ r = b11) → Calls Tryz.prog 161 #[.int .u8 r] W fun e w' => e = .returned (.bool (isDg r)) ∧ W = w') := by
    show ∀ (r : Int) (W : World), (r = b9 ∨ r = b10 ∨ r = b11) → Calls Tryz.prog 161 #[.int .u8 r] W fun e w' => e = .returned (.bool (isDg r)) ∧ W = w'
    rintro r W (rfl | rfl | rfl)
    · exact rdigit15_at rfl r9.out W
    · exact rdigit15_at rfl r10.out W
    · exact rdigit15_at rfl r11.out W
  have d9 : isDg b9 = true := G9.out
  have d10 : isDg b10 = true := G10.out
  have d11 : isDg b11 = true := G11.out
  clear G9 r9 G10 r10 G11 r11
  have HK := Lib.hid hk
  have HN := Lib.hid hn
  have HV := Lib.hid hv
  clear hs hf h8 h12 hk hn hv
  go_enter Tryz.func112, Tryz.ntmps112
  go_wp2_with (first
    | (go_at_call 160; refine (rformed8_at hS.out HF.out _).mono ?_; rintro e' w' ⟨rfl, rfl⟩)
    | (go_at_call 161; refine (HD.out _ _ ?hd).mono ?_; (case hd => first | exact .inl rfl | exact .inr (.inl rfl) | exact .inr (.inr rfl)); rintro e' w' ⟨rfl, rfl⟩)
    | (go_at_call 159; refine (rminor8_at hS.out HK.out _).mono ?_; rintro e' w' ⟨rfl, rfl⟩)
    | (go_at_call 108; refine (HN.out _).mono ?_; rintro e' w' ⟨rfl, rfl⟩)
    | (go_at_call 95; refine (HV.out _).mono ?_; rintro e' w' ⟨rfl, rfl⟩))
  obtain ⟨Wf, hWf⟩ : ∃ Wf, Wf = (w.alloc (.cells #[.string ⟨#[]⟩, .string ⟨#[]⟩, .int .i64 k, .int .i64 n, .string (s.extract 13 s.size), .slice none 0 0] 24)).alloc (.cells #[.string ⟨#[]⟩, .string ⟨#[]⟩, .int .i64 k, .int .i64 n, .string (s.extract 13 s.size), .slice none 0 0] 24) := ⟨_, rfl⟩
  have q : Blk Wf w.heap.size #[.string ⟨#[]⟩, .string ⟨#[]⟩, .int .i64 k, .int .i64 n, .string (s.extract 13 s.size), .slice none 0 0] 24 := by rw [hWf]; exact (Blk.new w #[.string ⟨#[]⟩, .string ⟨#[]⟩, .int .i64 k, .int .i64 n, .string (s.extract 13 s.size), .slice none 0 0] 24).alloc (.cells #[.string ⟨#[]⟩, .string ⟨#[]⟩, .int .i64 k, .int .i64 n, .string (s.extract 13 s.size), .slice none 0 0] 24)
  have u : Below w.heap.size w Wf := by rw [hWf]; exact ((Below.refl w.heap.size w).alloc (Nat.le_refl _) (.cells #[.string ⟨#[]⟩, .string ⟨#[]⟩, .int .i64 k, .int .i64 n, .string (s.extract 13 s.size), .slice none 0 0] 24)).alloc (by simp) (.cells #[.string ⟨#[]⟩, .string ⟨#[]⟩, .int .i64 k, .int .i64 n, .string (s.extract 13 s.size), .slice none 0 0] 24)
  rw [← hWf]
  have q0 := q.cell 0
  have q1 := q.cell 1
  have q2 := q.cell 2
  have q3 := q.cell 3
  have q4 := q.cell 4
  have q5 := q.cell 5
  simp only [List.getElem?_toArray, List.getElem?_cons_zero, List.getElem?_cons_succ] at q0 q1 q2 q3 q4 q5
  exact bodyPost_ret (v := .tuple #[.agg #[.string ⟨#[]⟩, .string ⟨#[]⟩, .int .i64 k, .int .i64 n, .string (s.extract 13 s.size), .slice none 0 0], .int .i64 0]) (by simp [results, Tryz.results112, go_sem, q0, q1, q2, q3, q4, q5]) rfl ⟨rfl, u⟩
end Go.Proofs.YtmoofcmmpemdcaaGreatDoor


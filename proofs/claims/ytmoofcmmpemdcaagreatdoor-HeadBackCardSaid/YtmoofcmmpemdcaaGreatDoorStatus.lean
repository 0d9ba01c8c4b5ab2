/- Layer 15: Status: what it answers for every text. -/
import Derived.Test.YtmoofcmmpemdcaaGreatDoorStartC
import Derived.Test.YtmoofcmmpemdcaaGreatDoorNumberW
import Derived.Test.YtmoofcmmpemdcaaGreatDoorOctetRef
set_option linter.unusedSimpArgs false
set_option linter.unusedVariables false
namespace Go.Proofs.YtmoofcmmpemdcaaGreatDoor
open Go.RowKit
def hd8 (s : ByteArray) : ByteArray := s.extract 0 8
def mid3 (s : ByteArray) : ByteArray := s.extract 9 12
def rest13 (s : ByteArray) : ByteArray := s.extract (min 13 s.size) s.size
/-- Has a line the form of a status line? -/
def statForm (s : ByteArray) : Bool := decide (12 ≤ s.size) && (decide (bt s 8 = 32) && ((decide (s.size = 12) || decide (bt s 12 = 32)) && (vform (hd8 s) && (isDg (bt s 9) && (isDg (bt s 10) && isDg (bt s 11))))))
def statRes (s : ByteArray) : (Int × Int × ByteArray) × Int :=
  if statForm s = false then ((0, 0, ⟨#[]⟩), 3)
  else if (vminor (hd8 s)).2 ≠ 0 then ((0, 0, ⟨#[]⟩), (vminor (hd8 s)).2)
  else if numV 10 (mid3 s).data.toList < 100 ∨ 599 < numV 10 (mid3 s).data.toList then ((0, 0, ⟨#[]⟩), 12)
  else if valL (rest13 s).data.toList = false then ((0, 0, ⟨#[]⟩), 7)
  else (((vminor (hd8 s)).1, numV 10 (mid3 s).data.toList, rest13 s), 0)
theorem formed8_at {s : ByteArray} (hs : s.size ≤ 9223372036854775807) {p : Bool} (h : vform (hd8 s) = p) (w : World) : Calls Tryz.prog 244 #[.string (s.extract 0 8)] w fun e w' => e = .returned (.bool p) ∧ w = w' :=
  formed_at (s := s.extract 0 8) (by simp; omega) h w
theorem dec3_at {s : ByteArray} (hs : s.size ≤ 9223372036854775807) {n e : Int} (h : numRes (mid3 s).data.toList 10 999 = (n, e)) (w : World) : Calls Tryz.prog 149 #[.string (s.extract 9 12), .int .i64 999] w fun r w' => r = .returned (.tuple #[.int .i64 n, .int .i64 e]) ∧ Below w.heap.size w w' :=
  dec_any (mid3 s) 999 (by unfold mid3; simp; omega) (by decide) (by decide) n e h w
theorem minor8_at {s : ByteArray} (hs : s.size ≤ 9223372036854775807) {k f : Int} (h : vminor (hd8 s) = (k, f)) (w : World) : Calls Tryz.prog 243 #[.string (s.extract 0 8)] w fun r w' => r = .returned (.tuple #[.int .i64 k, .int .i64 f]) ∧ w = w' :=
  minor_any (hd8 s) (by unfold hd8; simp; omega) h w
theorem value13_at {s : ByteArray} (hs : s.size ≤ 9223372036854775807) {x : ByteArray} (hx : x = rest13 s) {p : Bool} (h : valL (rest13 s).data.toList = p) (w : World) : Calls Tryz.prog 115 #[.string x] w fun r w' => r = .returned (.bool p) ∧ Below w.heap.size w w' := by
  subst h hx
  exact value_any (rest13 s) (by unfold rest13; simp; omega) w
def headZ : Array Value := #[.string ⟨#[]⟩, .string ⟨#[]⟩, .int .i64 0, .int .i64 0, .string ⟨#[]⟩, .slice none 0 0]
/-- A head written into the result's block. -/
def headW (w : World) (g : Nat) (k n : Int) (r : ByteArray) : World := (((((w.setCell ⟨g, 0, none⟩ (.string ⟨#[]⟩)).setCell ⟨g, 1, none⟩ (.string ⟨#[]⟩)).setCell ⟨g, 2, none⟩ (.int .i64 k)).setCell ⟨g, 3, none⟩ (.int .i64 n)).setCell ⟨g, 4, none⟩ (.string r)).setCell ⟨g, 5, none⟩ (.slice none 0 0)
theorem headW_blk {w : World} {g : Nat} {t : TypeId} (h : Blk w g headZ t) (k n : Int) (r : ByteArray) : Blk (headW w g k n r) g #[.string ⟨#[]⟩, .string ⟨#[]⟩, .int .i64 k, .int .i64 n, .string r, .slice none 0 0] t :=
  (((((h.set 0 (.string ⟨#[]⟩)).set 1 (.string ⟨#[]⟩)).set 2 (.int .i64 k)).set 3 (.int .i64 n)).set 4 (.string r)).set 5 (.slice none 0 0)
theorem headW_below {w w0 : World} (h : Below w0.heap.size w0 w) (k n : Int) (r : ByteArray) : Below w0.heap.size w0 (headW w w0.heap.size k n r) :=
  (((((h.setCell (Nat.le_refl _) _).setCell (Nat.le_refl _) _).setCell (Nat.le_refl _) _).setCell (Nat.le_refl _) _).setCell (Nat.le_refl _) _).setCell (Nat.le_refl _) _
set_option maxRecDepth 100000 in
set_option maxHeartbeats 4000000 in
theorem status_A (s : ByteArray) (hs : s.size ≤ 100000) (w : World) (hsz : s.size < 12) :
    Calls Tryz.prog 212 #[.string s] w fun o w' => o = .returned (.tuple #[.agg #[.string ⟨#[]⟩, .string ⟨#[]⟩, .int .i64 0, .int .i64 0, .string (⟨#[]⟩), .slice none 0 0], .int .i64 3]) ∧ Below w.heap.size w w' := by
  have hsi : (s.size : Int) ≤ 100000 := by omega
  have hlt : (s.size : Int) < 12 := by omega
  have hS : Hid (s.size ≤ 9223372036854775807) := by show s.size ≤ 9223372036854775807; omega

  clear hs
  go_enter Tryz.func212, Tryz.ntmps212
  go_wp2_with fail
  have q := Blk.new w #[.string ⟨#[]⟩, .string ⟨#[]⟩, .int .i64 0, .int .i64 0, .string ⟨#[]⟩, .slice none 0 0] 24
  have u := (Below.refl w.heap.size w).alloc (Nat.le_refl _) (.cells #[.string ⟨#[]⟩, .string ⟨#[]⟩, .int .i64 0, .int .i64 0, .string ⟨#[]⟩, .slice none 0 0] 24)
  obtain ⟨Wf, hWf⟩ : ∃ Wf, Wf = w.alloc (.cells #[.string ⟨#[]⟩, .string ⟨#[]⟩, .int .i64 0, .int .i64 0, .string ⟨#[]⟩, .slice none 0 0] 24) := ⟨_, rfl⟩
  rw [← hWf] at q u
  rw [← hWf]
  have q0 := q.cell 0
  have q1 := q.cell 1
  have q2 := q.cell 2
  have q3 := q.cell 3
  have q4 := q.cell 4
  have q5 := q.cell 5
  simp only [List.getElem?_toArray, List.getElem?_cons_zero, List.getElem?_cons_succ] at q0 q1 q2 q3 q4 q5
  exact bodyPost_ret (v := .tuple #[.agg #[.string ⟨#[]⟩, .string ⟨#[]⟩, .int .i64 0, .int .i64 0, .string (⟨#[]⟩), .slice none 0 0], .int .i64 3]) (by simp [results, Tryz.results212, go_sem, q0, q1, q2, q3, q4, q5]) rfl ⟨rfl, u⟩
set_option maxRecDepth 100000 in
set_option maxHeartbeats 4000000 in
theorem status_B (s : ByteArray) (hs : s.size ≤ 100000) (w : World) (hsz : 12 ≤ s.size) (h8 : bt s 8 ≠ 32) :
    Calls Tryz.prog 212 #[.string s] w fun o w' => o = .returned (.tuple #[.agg #[.string ⟨#[]⟩, .string ⟨#[]⟩, .int .i64 0, .int .i64 0, .string (⟨#[]⟩), .slice none 0 0], .int .i64 3]) ∧ Below w.heap.size w w' := by
  have hsi : (s.size : Int) ≤ 100000 := by omega
  have hsj : (12 : Int) ≤ s.size := by omega
  have hlt : decide ((s.size : Int) < 12) = false := by rw [decide_eq_false_iff_not]; omega
  obtain ⟨b8, hb8⟩ : ∃ b, b = bt s 8 := ⟨_, rfl⟩
  have i8 : ∀ W : World, (Instr.index 9 (.string s) (.int .i64 8)).run Tryz.prog W = .ok (.int .u8 b8) W := index_at s 8 (by omega) hb8
  rw [← hb8] at h8
  have n8 : (b8 == 32) = false := by rw [beq_eq_false_iff_ne]; exact h8
  have m8 : (b8 != 32) = true := by rw [bne_iff_ne]; exact h8
  have d8 : decide (b8 = 32) = false := decide_eq_false h8
  clear hb8
  have hS : Hid (s.size ≤ 9223372036854775807) := by show s.size ≤ 9223372036854775807; omega

  clear hs
  go_enter Tryz.func212, Tryz.ntmps212
  go_wp2_with fail
  have q := Blk.new w #[.string ⟨#[]⟩, .string ⟨#[]⟩, .int .i64 0, .int .i64 0, .string ⟨#[]⟩, .slice none 0 0] 24
  have u := (Below.refl w.heap.size w).alloc (Nat.le_refl _) (.cells #[.string ⟨#[]⟩, .string ⟨#[]⟩, .int .i64 0, .int .i64 0, .string ⟨#[]⟩, .slice none 0 0] 24)
  obtain ⟨Wf, hWf⟩ : ∃ Wf, Wf = w.alloc (.cells #[.string ⟨#[]⟩, .string ⟨#[]⟩, .int .i64 0, .int .i64 0, .string ⟨#[]⟩, .slice none 0 0] 24) := ⟨_, rfl⟩
  rw [← hWf] at q u
  rw [← hWf]
  have q0 := q.cell 0
  have q1 := q.cell 1
  have q2 := q.cell 2
  have q3 := q.cell 3
  have q4 := q.cell 4
  have q5 := q.cell 5
  simp only [List.getElem?_toArray, List.getElem?_cons_zero, List.getElem?_cons_succ] at q0 q1 q2 q3 q4 q5
  exact bodyPost_ret (v := .tuple #[.agg #[.string ⟨#[]⟩, .string ⟨#[]⟩, .int .i64 0, .int .i64 0, .string (⟨#[]⟩), .slice none 0 0], .int .i64 3]) (by simp [results, Tryz.results212, go_sem, q0, q1, q2, q3, q4, q5]) rfl ⟨rfl, u⟩
set_option maxRecDepth 100000 in
set_option maxHeartbeats 4000000 in
theorem status_C (s : ByteArray) (hs : s.size ≤ 100000) (w : World) (hsz : 13 ≤ s.size) (h8 : bt s 8 = 32) (h12 : bt s 12 ≠ 32) :
    Calls Tryz.prog 212 #[.string s] w fun o w' => o = .returned (.tuple #[.agg #[.string ⟨#[]⟩, .string ⟨#[]⟩, .int .i64 0, .int .i64 0, .string (⟨#[]⟩), .slice none 0 0], .int .i64 3]) ∧ Below w.heap.size w w' := by
  have hsi : (s.size : Int) ≤ 100000 := by omega
  have hsj : (12 : Int) ≤ s.size := by omega
  have hlt : decide ((s.size : Int) < 12) = false := by rw [decide_eq_false_iff_not]; omega
  have hsk : (12 : Int) < s.size := by omega
  have hmin : min 13 (s.size : Int) = 13 := by omega
  have i8 : ∀ W : World, (Instr.index 9 (.string s) (.int .i64 8)).run Tryz.prog W = .ok (.int .u8 32) W := index_at s 8 (by omega) h8.symm
  obtain ⟨b12, hb12⟩ : ∃ b, b = bt s 12 := ⟨_, rfl⟩
  have i12 : ∀ W : World, (Instr.index 9 (.string s) (.int .i64 12)).run Tryz.prog W = .ok (.int .u8 b12) W := index_at s 12 (by omega) hb12
  rw [← hb12] at h12
  have n12 : (b12 == 32) = false := by rw [beq_eq_false_iff_ne]; exact h12
  have m12 : (b12 != 32) = true := by rw [bne_iff_ne]; exact h12
  have d12 : decide (b12 = 32) = false := decide_eq_false h12
  clear hb12
  have hS : Hid (s.size ≤ 9223372036854775807) := by show s.size ≤ 9223372036854775807; omega

  clear hs h8
  go_enter Tryz.func212, Tryz.ntmps212
  go_wp2_with fail
  have q := Blk.new w #[.string ⟨#[]⟩, .string ⟨#[]⟩, .int .i64 0, .int .i64 0, .string ⟨#[]⟩, .slice none 0 0] 24
  have u := (Below.refl w.heap.size w).alloc (Nat.le_refl _) (.cells #[.string ⟨#[]⟩, .string ⟨#[]⟩, .int .i64 0, .int .i64 0, .string ⟨#[]⟩, .slice none 0 0] 24)
  obtain ⟨Wf, hWf⟩ : ∃ Wf, Wf = w.alloc (.cells #[.string ⟨#[]⟩, .string ⟨#[]⟩, .int .i64 0, .int .i64 0, .string ⟨#[]⟩, .slice none 0 0] 24) := ⟨_, rfl⟩
  rw [← hWf] at q u
  rw [← hWf]
  have q0 := q.cell 0
  have q1 := q.cell 1
  have q2 := q.cell 2
  have q3 := q.cell 3
  have q4 := q.cell 4
  have q5 := q.cell 5
  simp only [List.getElem?_toArray, List.getElem?_cons_zero, List.getElem?_cons_succ] at q0 q1 q2 q3 q4 q5
  exact bodyPost_ret (v := .tuple #[.agg #[.string ⟨#[]⟩, .string ⟨#[]⟩, .int .i64 0, .int .i64 0, .string (⟨#[]⟩), .slice none 0 0], .int .i64 3]) (by simp [results, Tryz.results212, go_sem, q0, q1, q2, q3, q4, q5]) rfl ⟨rfl, u⟩
set_option maxRecDepth 100000 in
set_option maxHeartbeats 4000000 in
theorem status_D12 (s : ByteArray) (hs : s.size ≤ 100000) (w : World) (hsz : s.size = 12) (h8 : bt s 8 = 32) (hf : vform (hd8 s) = false) :
    Calls Tryz.prog 212 #[.string s] w fun o w' => o = .returned (.tuple #[.agg #[.string ⟨#[]⟩, .string ⟨#[]⟩, .int .i64 0, .int .i64 0, .string (⟨#[]⟩), .slice none 0 0], .int .i64 3]) ∧ Below w.heap.size w w' := by
  have hsi : (s.size : Int) ≤ 100000 := by omega
  have hsj : (12 : Int) ≤ s.size := by omega
  have hlt : decide ((s.size : Int) < 12) = false := by rw [decide_eq_false_iff_not]; omega
  have hsk : decide ((12 : Int) < s.size) = false := by rw [decide_eq_false_iff_not]; omega
  have hmin : min 13 (s.size : Int) = 12 := by omega
  have i8 : ∀ W : World, (Instr.index 9 (.string s) (.int .i64 8)).run Tryz.prog W = .ok (.int .u8 32) W := index_at s 8 (by omega) h8.symm
  have hS : Hid (s.size ≤ 9223372036854775807) := by show s.size ≤ 9223372036854775807; omega
  have HF := Lib.hid hf
  clear hs h8 hf
  go_enter Tryz.func212, Tryz.ntmps212
  go_wp2_with (first
    | (go_at_call 244; refine (formed8_at hS.out HF.out _).mono ?_; rintro e' w' ⟨rfl, rfl⟩))
  have q := Blk.new w #[.string ⟨#[]⟩, .string ⟨#[]⟩, .int .i64 0, .int .i64 0, .string ⟨#[]⟩, .slice none 0 0] 24
  have u := (Below.refl w.heap.size w).alloc (Nat.le_refl _) (.cells #[.string ⟨#[]⟩, .string ⟨#[]⟩, .int .i64 0, .int .i64 0, .string ⟨#[]⟩, .slice none 0 0] 24)
  obtain ⟨Wf, hWf⟩ : ∃ Wf, Wf = w.alloc (.cells #[.string ⟨#[]⟩, .string ⟨#[]⟩, .int .i64 0, .int .i64 0, .string ⟨#[]⟩, .slice none 0 0] 24) := ⟨_, rfl⟩
  rw [← hWf] at q u
  rw [← hWf]
  have q0 := q.cell 0
  have q1 := q.cell 1
  have q2 := q.cell 2
  have q3 := q.cell 3
  have q4 := q.cell 4
  have q5 := q.cell 5
  simp only [List.getElem?_toArray, List.getElem?_cons_zero, List.getElem?_cons_succ] at q0 q1 q2 q3 q4 q5
  exact bodyPost_ret (v := .tuple #[.agg #[.string ⟨#[]⟩, .string ⟨#[]⟩, .int .i64 0, .int .i64 0, .string (⟨#[]⟩), .slice none 0 0], .int .i64 3]) (by simp [results, Tryz.results212, go_sem, q0, q1, q2, q3, q4, q5]) rfl ⟨rfl, u⟩
set_option maxRecDepth 100000 in
set_option maxHeartbeats 4000000 in
theorem status_D13 (s : ByteArray) (hs : s.size ≤ 100000) (w : World) (hsz : 13 ≤ s.size) (h8 : bt s 8 = 32) (h12 : bt s 12 = 32) (hf : vform (hd8 s) = false) :
    Calls Tryz.prog 212 #[.string s] w fun o w' => o = .returned (.tuple #[.agg #[.string ⟨#[]⟩, .string ⟨#[]⟩, .int .i64 0, .int .i64 0, .string (⟨#[]⟩), .slice none 0 0], .int .i64 3]) ∧ Below w.heap.size w w' := by
  have hsi : (s.size : Int) ≤ 100000 := by omega
  have hsj : (12 : Int) ≤ s.size := by omega
  have hlt : decide ((s.size : Int) < 12) = false := by rw [decide_eq_false_iff_not]; omega
  have hsk : (12 : Int) < s.size := by omega
  have hmin : min 13 (s.size : Int) = 13 := by omega
  have i8 : ∀ W : World, (Instr.index 9 (.string s) (.int .i64 8)).run Tryz.prog W = .ok (.int .u8 32) W := index_at s 8 (by omega) h8.symm
  have i12 : ∀ W : World, (Instr.index 9 (.string s) (.int .i64 12)).run Tryz.prog W = .ok (.int .u8 32) W := index_at s 12 (by omega) h12.symm
  have hS : Hid (s.size ≤ 9223372036854775807) := by show s.size ≤ 9223372036854775807; omega
  have HF := Lib.hid hf
  clear hs h8 h12 hf
  go_enter Tryz.func212, Tryz.ntmps212
  go_wp2_with (first
    | (go_at_call 244; refine (formed8_at hS.out HF.out _).mono ?_; rintro e' w' ⟨rfl, rfl⟩))
  have q := Blk.new w #[.string ⟨#[]⟩, .string ⟨#[]⟩, .int .i64 0, .int .i64 0, .string ⟨#[]⟩, .slice none 0 0] 24
  have u := (Below.refl w.heap.size w).alloc (Nat.le_refl _) (.cells #[.string ⟨#[]⟩, .string ⟨#[]⟩, .int .i64 0, .int .i64 0, .string ⟨#[]⟩, .slice none 0 0] 24)
  obtain ⟨Wf, hWf⟩ : ∃ Wf, Wf = w.alloc (.cells #[.string ⟨#[]⟩, .string ⟨#[]⟩, .int .i64 0, .int .i64 0, .string ⟨#[]⟩, .slice none 0 0] 24) := ⟨_, rfl⟩
  rw [← hWf] at q u
  rw [← hWf]
  have q0 := q.cell 0
  have q1 := q.cell 1
  have q2 := q.cell 2
  have q3 := q.cell 3
  have q4 := q.cell 4
  have q5 := q.cell 5
  simp only [List.getElem?_toArray, List.getElem?_cons_zero, List.getElem?_cons_succ] at q0 q1 q2 q3 q4 q5
  exact bodyPost_ret (v := .tuple #[.agg #[.string ⟨#[]⟩, .string ⟨#[]⟩, .int .i64 0, .int .i64 0, .string (⟨#[]⟩), .slice none 0 0], .int .i64 3]) (by simp [results, Tryz.results212, go_sem, q0, q1, q2, q3, q4, q5]) rfl ⟨rfl, u⟩
set_option maxRecDepth 100000 in
set_option maxHeartbeats 4000000 in
theorem status_E12 (s : ByteArray) (hs : s.size ≤ 100000) (w : World) (hsz : s.size = 12) (h8 : bt s 8 = 32) (hf : vform (hd8 s) = true) {n' e' : Int} (hn : numRes (mid3 s).data.toList 10 999 = (n', e')) (he : e' ≠ 0) :
    Calls Tryz.prog 212 #[.string s] w fun o w' => o = .returned (.tuple #[.agg #[.string ⟨#[]⟩, .string ⟨#[]⟩, .int .i64 0, .int .i64 0, .string (⟨#[]⟩), .slice none 0 0], .int .i64 3]) ∧ Below w.heap.size w w' := by
  have hsi : (s.size : Int) ≤ 100000 := by omega
  have hsj : (12 : Int) ≤ s.size := by omega
  have hlt : decide ((s.size : Int) < 12) = false := by rw [decide_eq_false_iff_not]; omega
  have hsk : decide ((12 : Int) < s.size) = false := by rw [decide_eq_false_iff_not]; omega
  have hmin : min 13 (s.size : Int) = 12 := by omega
  have i8 : ∀ W : World, (Instr.index 9 (.string s) (.int .i64 8)).run Tryz.prog W = .ok (.int .u8 32) W := index_at s 8 (by omega) h8.symm
  have ne : (e' == 0) = false := by rw [beq_eq_false_iff_ne]; exact he
  have hS : Hid (s.size ≤ 9223372036854775807) := by show s.size ≤ 9223372036854775807; omega
  have HF := Lib.hid hf
  have HN := Lib.hid hn
  clear hs h8 hf he hn
  go_enter Tryz.func212, Tryz.ntmps212
  go_wp2_with (first
    | (go_at_call 244; refine (formed8_at hS.out HF.out _).mono ?_; rintro e' w' ⟨rfl, rfl⟩)
    | (go_at_call 149; refine (dec3_at hS.out HN.out _).mono ?_; rintro r' w2 ⟨rfl, b2⟩; have k2 := Lib.hid ((Blk.new w headZ 24).call b2); have u2 := Lib.hid (((Below.refl w.heap.size w).alloc (Nat.le_refl _) (.cells headZ 24)).trans (b2.mono (by simp))); clear b2; have c0 : w2.cell? ⟨w.heap.size, 0, none⟩ = some (.string ⟨#[]⟩) := k2.out.cell 0; have c1 : w2.cell? ⟨w.heap.size, 1, none⟩ = some (.string ⟨#[]⟩) := k2.out.cell 1; have c2 : w2.cell? ⟨w.heap.size, 2, none⟩ = some (.int .i64 0) := k2.out.cell 2; have c3 : w2.cell? ⟨w.heap.size, 3, none⟩ = some (.int .i64 0) := k2.out.cell 3; have c4 : w2.cell? ⟨w.heap.size, 4, none⟩ = some (.string ⟨#[]⟩) := k2.out.cell 4; have c5 : w2.cell? ⟨w.heap.size, 5, none⟩ = some (.slice none 0 0) := k2.out.cell 5; have f0 : w2.frozen? ⟨w.heap.size, 0, none⟩ = false := k2.out.froz 0; have f1 : w2.frozen? ⟨w.heap.size, 1, none⟩ = false := k2.out.froz 1; have f2 : w2.frozen? ⟨w.heap.size, 2, none⟩ = false := k2.out.froz 2; have f3 : w2.frozen? ⟨w.heap.size, 3, none⟩ = false := k2.out.froz 3; have f4 : w2.frozen? ⟨w.heap.size, 4, none⟩ = false := k2.out.froz 4; have f5 : w2.frozen? ⟨w.heap.size, 5, none⟩ = false := k2.out.froz 5))
  have q := headW_blk k2.out 0 0 (⟨#[]⟩)
  have u := headW_below u2.out 0 0 (⟨#[]⟩)
  obtain ⟨Wf, hWf⟩ : ∃ Wf, Wf = headW w2 w.heap.size 0 0 (⟨#[]⟩) := ⟨_, rfl⟩
  have q : Blk Wf w.heap.size #[.string ⟨#[]⟩, .string ⟨#[]⟩, .int .i64 0, .int .i64 0, .string (⟨#[]⟩), .slice none 0 0] 24 := by rw [hWf]; exact q
  have u : Below w.heap.size w Wf := by rw [hWf]; exact u
  have hWf' : (((((w2.setCell ⟨w.heap.size, 0, none⟩ (.string ⟨#[]⟩)).setCell ⟨w.heap.size, 1, none⟩ (.string ⟨#[]⟩)).setCell ⟨w.heap.size, 2, none⟩ (.int .i64 0)).setCell ⟨w.heap.size, 3, none⟩ (.int .i64 0)).setCell ⟨w.heap.size, 4, none⟩ (.string (⟨#[]⟩))).setCell ⟨w.heap.size, 5, none⟩ (.slice none 0 0) = Wf := hWf.symm
  rw [hWf']
  have q0 := q.cell 0
  have q1 := q.cell 1
  have q2 := q.cell 2
  have q3 := q.cell 3
  have q4 := q.cell 4
  have q5 := q.cell 5
  simp only [List.getElem?_toArray, List.getElem?_cons_zero, List.getElem?_cons_succ] at q0 q1 q2 q3 q4 q5
  exact bodyPost_ret (v := .tuple #[.agg #[.string ⟨#[]⟩, .string ⟨#[]⟩, .int .i64 0, .int .i64 0, .string (⟨#[]⟩), .slice none 0 0], .int .i64 3]) (by simp [results, Tryz.results212, go_sem, q0, q1, q2, q3, q4, q5]) rfl ⟨rfl, u⟩
set_option maxRecDepth 100000 in
set_option maxHeartbeats 4000000 in
theorem status_E13 (s : ByteArray) (hs : s.size ≤ 100000) (w : World) (hsz : 13 ≤ s.size) (h8 : bt s 8 = 32) (h12 : bt s 12 = 32) (hf : vform (hd8 s) = true) {n' e' : Int} (hn : numRes (mid3 s).data.toList 10 999 = (n', e')) (he : e' ≠ 0) :
    Calls Tryz.prog 212 #[.string s] w fun o w' => o = .returned (.tuple #[.agg #[.string ⟨#[]⟩, .string ⟨#[]⟩, .int .i64 0, .int .i64 0, .string (⟨#[]⟩), .slice none 0 0], .int .i64 3]) ∧ Below w.heap.size w w' := by
  have hsi : (s.size : Int) ≤ 100000 := by omega
  have hsj : (12 : Int) ≤ s.size := by omega
  have hlt : decide ((s.size : Int) < 12) = false := by rw [decide_eq_false_iff_not]; omega
  have hsk : (12 : Int) < s.size := by omega
  have hmin : min 13 (s.size : Int) = 13 := by omega
  have i8 : ∀ W : World, (Instr.index 9 (.string s) (.int .i64 8)).run Tryz.prog W = .ok (.int .u8 32) W := index_at s 8 (by omega) h8.symm
  have i12 : ∀ W : World, (Instr.index 9 (.string s) (.int .i64 12)).run Tryz.prog W = .ok (.int .u8 32) W := index_at s 12 (by omega) h12.symm
  have ne : (e' == 0) = false := by rw [beq_eq_false_iff_ne]; exact he
  have hS : Hid (s.size ≤ 9223372036854775807) := by show s.size ≤ 9223372036854775807; omega
  have HF := Lib.hid hf
  have HN := Lib.hid hn
  clear hs h8 h12 hf he hn
  go_enter Tryz.func212, Tryz.ntmps212
  go_wp2_with (first
    | (go_at_call 244; refine (formed8_at hS.out HF.out _).mono ?_; rintro e' w' ⟨rfl, rfl⟩)
    | (go_at_call 149; refine (dec3_at hS.out HN.out _).mono ?_; rintro r' w2 ⟨rfl, b2⟩; have k2 := Lib.hid ((Blk.new w headZ 24).call b2); have u2 := Lib.hid (((Below.refl w.heap.size w).alloc (Nat.le_refl _) (.cells headZ 24)).trans (b2.mono (by simp))); clear b2; have c0 : w2.cell? ⟨w.heap.size, 0, none⟩ = some (.string ⟨#[]⟩) := k2.out.cell 0; have c1 : w2.cell? ⟨w.heap.size, 1, none⟩ = some (.string ⟨#[]⟩) := k2.out.cell 1; have c2 : w2.cell? ⟨w.heap.size, 2, none⟩ = some (.int .i64 0) := k2.out.cell 2; have c3 : w2.cell? ⟨w.heap.size, 3, none⟩ = some (.int .i64 0) := k2.out.cell 3; have c4 : w2.cell? ⟨w.heap.size, 4, none⟩ = some (.string ⟨#[]⟩) := k2.out.cell 4; have c5 : w2.cell? ⟨w.heap.size, 5, none⟩ = some (.slice none 0 0) := k2.out.cell 5; have f0 : w2.frozen? ⟨w.heap.size, 0, none⟩ = false := k2.out.froz 0; have f1 : w2.frozen? ⟨w.heap.size, 1, none⟩ = false := k2.out.froz 1; have f2 : w2.frozen? ⟨w.heap.size, 2, none⟩ = false := k2.out.froz 2; have f3 : w2.frozen? ⟨w.heap.size, 3, none⟩ = false := k2.out.froz 3; have f4 : w2.frozen? ⟨w.heap.size, 4, none⟩ = false := k2.out.froz 4; have f5 : w2.frozen? ⟨w.heap.size, 5, none⟩ = false := k2.out.froz 5))
  have q := headW_blk k2.out 0 0 (⟨#[]⟩)
  have u := headW_below u2.out 0 0 (⟨#[]⟩)
  obtain ⟨Wf, hWf⟩ : ∃ Wf, Wf = headW w2 w.heap.size 0 0 (⟨#[]⟩) := ⟨_, rfl⟩
  have q : Blk Wf w.heap.size #[.string ⟨#[]⟩, .string ⟨#[]⟩, .int .i64 0, .int .i64 0, .string (⟨#[]⟩), .slice none 0 0] 24 := by rw [hWf]; exact q
  have u : Below w.heap.size w Wf := by rw [hWf]; exact u
  have hWf' : (((((w2.setCell ⟨w.heap.size, 0, none⟩ (.string ⟨#[]⟩)).setCell ⟨w.heap.size, 1, none⟩ (.string ⟨#[]⟩)).setCell ⟨w.heap.size, 2, none⟩ (.int .i64 0)).setCell ⟨w.heap.size, 3, none⟩ (.int .i64 0)).setCell ⟨w.heap.size, 4, none⟩ (.string (⟨#[]⟩))).setCell ⟨w.heap.size, 5, none⟩ (.slice none 0 0) = Wf := hWf.symm
  rw [hWf']
  have q0 := q.cell 0
  have q1 := q.cell 1
  have q2 := q.cell 2
  have q3 := q.cell 3
  have q4 := q.cell 4
  have q5 := q.cell 5
  simp only [List.getElem?_toArray, List.getElem?_cons_zero, List.getElem?_cons_succ] at q0 q1 q2 q3 q4 q5
  exact bodyPost_ret (v := .tuple #[.agg #[.string ⟨#[]⟩, .string ⟨#[]⟩, .int .i64 0, .int .i64 0, .string (⟨#[]⟩), .slice none 0 0], .int .i64 3]) (by simp [results, Tryz.results212, go_sem, q0, q1, q2, q3, q4, q5]) rfl ⟨rfl, u⟩
set_option maxRecDepth 100000 in
set_option maxHeartbeats 4000000 in
theorem status_F12 (s : ByteArray) (hs : s.size ≤ 100000) (w : World) (hsz : s.size = 12) (h8 : bt s 8 = 32) (hf : vform (hd8 s) = true) {n : Int} (hn : numRes (mid3 s).data.toList 10 999 = (n, 0)) {k' f : Int} (hk : vminor (hd8 s) = (k', f)) (hfe : f ≠ 0) :
    Calls Tryz.prog 212 #[.string s] w fun o w' => o = .returned (.tuple #[.agg #[.string ⟨#[]⟩, .string ⟨#[]⟩, .int .i64 0, .int .i64 0, .string (⟨#[]⟩), .slice none 0 0], .int .i64 f]) ∧ Below w.heap.size w w' := by
  have hsi : (s.size : Int) ≤ 100000 := by omega
  have hsj : (12 : Int) ≤ s.size := by omega
  have hlt : decide ((s.size : Int) < 12) = false := by rw [decide_eq_false_iff_not]; omega
  have hsk : decide ((12 : Int) < s.size) = false := by rw [decide_eq_false_iff_not]; omega
  have hmin : min 13 (s.size : Int) = 12 := by omega
  have i8 : ∀ W : World, (Instr.index 9 (.string s) (.int .i64 8)).run Tryz.prog W = .ok (.int .u8 32) W := index_at s 8 (by omega) h8.symm
  have nf : (f == 0) = false := by rw [beq_eq_false_iff_ne]; exact hfe
  have hS : Hid (s.size ≤ 9223372036854775807) := by show s.size ≤ 9223372036854775807; omega
  have HF := Lib.hid hf
  have HN := Lib.hid hn
  have HK := Lib.hid hk
  clear hs h8 hf hn hfe hk
  go_enter Tryz.func212, Tryz.ntmps212
  go_wp2_with (first
    | (go_at_call 244; refine (formed8_at hS.out HF.out _).mono ?_; rintro e' w' ⟨rfl, rfl⟩)
    | (go_at_call 149; refine (dec3_at hS.out HN.out _).mono ?_; rintro r' w2 ⟨rfl, b2⟩; have k2 := Lib.hid ((Blk.new w headZ 24).call b2); have u2 := Lib.hid (((Below.refl w.heap.size w).alloc (Nat.le_refl _) (.cells headZ 24)).trans (b2.mono (by simp))); clear b2; have c0 : w2.cell? ⟨w.heap.size, 0, none⟩ = some (.string ⟨#[]⟩) := k2.out.cell 0; have c1 : w2.cell? ⟨w.heap.size, 1, none⟩ = some (.string ⟨#[]⟩) := k2.out.cell 1; have c2 : w2.cell? ⟨w.heap.size, 2, none⟩ = some (.int .i64 0) := k2.out.cell 2; have c3 : w2.cell? ⟨w.heap.size, 3, none⟩ = some (.int .i64 0) := k2.out.cell 3; have c4 : w2.cell? ⟨w.heap.size, 4, none⟩ = some (.string ⟨#[]⟩) := k2.out.cell 4; have c5 : w2.cell? ⟨w.heap.size, 5, none⟩ = some (.slice none 0 0) := k2.out.cell 5; have f0 : w2.frozen? ⟨w.heap.size, 0, none⟩ = false := k2.out.froz 0; have f1 : w2.frozen? ⟨w.heap.size, 1, none⟩ = false := k2.out.froz 1; have f2 : w2.frozen? ⟨w.heap.size, 2, none⟩ = false := k2.out.froz 2; have f3 : w2.frozen? ⟨w.heap.size, 3, none⟩ = false := k2.out.froz 3; have f4 : w2.frozen? ⟨w.heap.size, 4, none⟩ = false := k2.out.froz 4; have f5 : w2.frozen? ⟨w.heap.size, 5, none⟩ = false := k2.out.froz 5)
    | (go_at_call 243; refine (minor8_at hS.out HK.out _).mono ?_; rintro r' w' ⟨rfl, rfl⟩))
  have q := headW_blk k2.out 0 0 (⟨#[]⟩)
  have u := headW_below u2.out 0 0 (⟨#[]⟩)
  obtain ⟨Wf, hWf⟩ : ∃ Wf, Wf = headW w2 w.heap.size 0 0 (⟨#[]⟩) := ⟨_, rfl⟩
  have q : Blk Wf w.heap.size #[.string ⟨#[]⟩, .string ⟨#[]⟩, .int .i64 0, .int .i64 0, .string (⟨#[]⟩), .slice none 0 0] 24 := by rw [hWf]; exact q
  have u : Below w.heap.size w Wf := by rw [hWf]; exact u
  have hWf' : (((((w2.setCell ⟨w.heap.size, 0, none⟩ (.string ⟨#[]⟩)).setCell ⟨w.heap.size, 1, none⟩ (.string ⟨#[]⟩)).setCell ⟨w.heap.size, 2, none⟩ (.int .i64 0)).setCell ⟨w.heap.size, 3, none⟩ (.int .i64 0)).setCell ⟨w.heap.size, 4, none⟩ (.string (⟨#[]⟩))).setCell ⟨w.heap.size, 5, none⟩ (.slice none 0 0) = Wf := hWf.symm
  rw [hWf']
  have q0 := q.cell 0
  have q1 := q.cell 1
  have q2 := q.cell 2
  have q3 := q.cell 3
  have q4 := q.cell 4
  have q5 := q.cell 5
  simp only [List.getElem?_toArray, List.getElem?_cons_zero, List.getElem?_cons_succ] at q0 q1 q2 q3 q4 q5
  exact bodyPost_ret (v := .tuple #[.agg #[.string ⟨#[]⟩, .string ⟨#[]⟩, .int .i64 0, .int .i64 0, .string (⟨#[]⟩), .slice none 0 0], .int .i64 f]) (by simp [results, Tryz.results212, go_sem, q0, q1, q2, q3, q4, q5]) rfl ⟨rfl, u⟩
set_option maxRecDepth 100000 in
set_option maxHeartbeats 4000000 in
theorem status_F13 (s : ByteArray) (hs : s.size ≤ 100000) (w : World) (hsz : 13 ≤ s.size) (h8 : bt s 8 = 32) (h12 : bt s 12 = 32) (hf : vform (hd8 s) = true) {n : Int} (hn : numRes (mid3 s).data.toList 10 999 = (n, 0)) {k' f : Int} (hk : vminor (hd8 s) = (k', f)) (hfe : f ≠ 0) :
    Calls Tryz.prog 212 #[.string s] w fun o w' => o = .returned (.tuple #[.agg #[.string ⟨#[]⟩, .string ⟨#[]⟩, .int .i64 0, .int .i64 0, .string (⟨#[]⟩), .slice none 0 0], .int .i64 f]) ∧ Below w.heap.size w w' := by
  have hsi : (s.size : Int) ≤ 100000 := by omega
  have hsj : (12 : Int) ≤ s.size := by omega
  have hlt : decide ((s.size : Int) < 12) = false := by rw [decide_eq_false_iff_not]; omega
  have hsk : (12 : Int) < s.size := by omega
  have hmin : min 13 (s.size : Int) = 13 := by omega
  have i8 : ∀ W : World, (Instr.index 9 (.string s) (.int .i64 8)).run Tryz.prog W = .ok (.int .u8 32) W := index_at s 8 (by omega) h8.symm
  have i12 : ∀ W : World, (Instr.index 9 (.string s) (.int .i64 12)).run Tryz.prog W = .ok (.int .u8 32) W := index_at s 12 (by omega) h12.symm
  have nf : (f == 0) = false := by rw [beq_eq_false_iff_ne]; exact hfe
  have hS : Hid (s.size ≤ 9223372036854775807) := by show s.size ≤ 9223372036854775807; omega
  have HF := Lib.hid hf
  have HN := Lib.hid hn
  have HK := Lib.hid hk
  clear hs h8 h12 hf hn hfe hk
  go_enter Tryz.func212, Tryz.ntmps212
  go_wp2_with (first
    | (go_at_call 244; refine (formed8_at hS.out HF.out _).mono ?_; rintro e' w' ⟨rfl, rfl⟩)
    | (go_at_call 149; refine (dec3_at hS.out HN.out _).mono ?_; rintro r' w2 ⟨rfl, b2⟩; have k2 := Lib.hid ((Blk.new w headZ 24).call b2); have u2 := Lib.hid (((Below.refl w.heap.size w).alloc (Nat.le_refl _) (.cells headZ 24)).trans (b2.mono (by simp))); clear b2; have c0 : w2.cell? ⟨w.heap.size, 0, none⟩ = some (.string ⟨#[]⟩) := k2.out.cell 0; have c1 : w2.cell? ⟨w.heap.size, 1, none⟩ = some (.string ⟨#[]⟩) := k2.out.cell 1; have c2 : w2.cell? ⟨w.heap.size, 2, none⟩ = some (.int .i64 0) := k2.out.cell 2; have c3 : w2.cell? ⟨w.heap.size, 3, none⟩ = some (.int .i64 0) := k2.out.cell 3; have c4 : w2.cell? ⟨w.heap.size, 4, none⟩ = some (.string ⟨#[]⟩) := k2.out.cell 4; have c5 : w2.cell? ⟨w.heap.size, 5, none⟩ = some (.slice none 0 0) := k2.out.cell 5; have f0 : w2.frozen? ⟨w.heap.size, 0, none⟩ = false := k2.out.froz 0; have f1 : w2.frozen? ⟨w.heap.size, 1, none⟩ = false := k2.out.froz 1; have f2 : w2.frozen? ⟨w.heap.size, 2, none⟩ = false := k2.out.froz 2; have f3 : w2.frozen? ⟨w.heap.size, 3, none⟩ = false := k2.out.froz 3; have f4 : w2.frozen? ⟨w.heap.size, 4, none⟩ = false := k2.out.froz 4; have f5 : w2.frozen? ⟨w.heap.size, 5, none⟩ = false := k2.out.froz 5)
    | (go_at_call 243; refine (minor8_at hS.out HK.out _).mono ?_; rintro r' w' ⟨rfl, rfl⟩))
  have q := headW_blk k2.out 0 0 (⟨#[]⟩)
  have u := headW_below u2.out 0 0 (⟨#[]⟩)
  obtain ⟨Wf, hWf⟩ : ∃ Wf, Wf = headW w2 w.heap.size 0 0 (⟨#[]⟩) := ⟨_, rfl⟩
  have q : Blk Wf w.heap.size #[.string ⟨#[]⟩, .string ⟨#[]⟩, .int .i64 0, .int .i64 0, .string (⟨#[]⟩), .slice none 0 0] 24 := by rw [hWf]; exact q
  have u : Below w.heap.size w Wf := by rw [hWf]; exact u
  have hWf' : (((((w2.setCell ⟨w.heap.size, 0, none⟩ (.string ⟨#[]⟩)).setCell ⟨w.heap.size, 1, none⟩ (.string ⟨#[]⟩)).setCell ⟨w.heap.size, 2, none⟩ (.int .i64 0)).setCell ⟨w.heap.size, 3, none⟩ (.int .i64 0)).setCell ⟨w.heap.size, 4, none⟩ (.string (⟨#[]⟩))).setCell ⟨w.heap.size, 5, none⟩ (.slice none 0 0) = Wf := hWf.symm
  rw [hWf']
  have q0 := q.cell 0
  have q1 := q.cell 1
  have q2 := q.cell 2
  have q3 := q.cell 3
  have q4 := q.cell 4
  have q5 := q.cell 5
  simp only [List.getElem?_toArray, List.getElem?_cons_zero, List.getElem?_cons_succ] at q0 q1 q2 q3 q4 q5
  exact bodyPost_ret (v := .tuple #[.agg #[.string ⟨#[]⟩, .string ⟨#[]⟩, .int .i64 0, .int .i64 0, .string (⟨#[]⟩), .slice none 0 0], .int .i64 f]) (by simp [results, Tryz.results212, go_sem, q0, q1, q2, q3, q4, q5]) rfl ⟨rfl, u⟩
set_option maxRecDepth 100000 in
set_option maxHeartbeats 4000000 in
theorem status_G12 (s : ByteArray) (hs : s.size ≤ 100000) (w : World) (hsz : s.size = 12) (h8 : bt s 8 = 32) (hf : vform (hd8 s) = true) {n : Int} (hn : numRes (mid3 s).data.toList 10 999 = (n, 0)) {k : Int} (hk : vminor (hd8 s) = (k, 0)) (hn1 : n < 100) :
    Calls Tryz.prog 212 #[.string s] w fun o w' => o = .returned (.tuple #[.agg #[.string ⟨#[]⟩, .string ⟨#[]⟩, .int .i64 0, .int .i64 0, .string (⟨#[]⟩), .slice none 0 0], .int .i64 12]) ∧ Below w.heap.size w w' := by
  have hsi : (s.size : Int) ≤ 100000 := by omega
  have hsj : (12 : Int) ≤ s.size := by omega
  have hlt : decide ((s.size : Int) < 12) = false := by rw [decide_eq_false_iff_not]; omega
  have hsk : decide ((12 : Int) < s.size) = false := by rw [decide_eq_false_iff_not]; omega
  have hmin : min 13 (s.size : Int) = 12 := by omega
  have i8 : ∀ W : World, (Instr.index 9 (.string s) (.int .i64 8)).run Tryz.prog W = .ok (.int .u8 32) W := index_at s 8 (by omega) h8.symm
  have hS : Hid (s.size ≤ 9223372036854775807) := by show s.size ≤ 9223372036854775807; omega
  have HF := Lib.hid hf
  have HN := Lib.hid hn
  have HK := Lib.hid hk
  clear hs h8 hf hn hk
  go_enter Tryz.func212, Tryz.ntmps212
  go_wp2_with (first
    | (go_at_call 244; refine (formed8_at hS.out HF.out _).mono ?_; rintro e' w' ⟨rfl, rfl⟩)
    | (go_at_call 149; refine (dec3_at hS.out HN.out _).mono ?_; rintro r' w2 ⟨rfl, b2⟩; have k2 := Lib.hid ((Blk.new w headZ 24).call b2); have u2 := Lib.hid (((Below.refl w.heap.size w).alloc (Nat.le_refl _) (.cells headZ 24)).trans (b2.mono (by simp))); clear b2; have c0 : w2.cell? ⟨w.heap.size, 0, none⟩ = some (.string ⟨#[]⟩) := k2.out.cell 0; have c1 : w2.cell? ⟨w.heap.size, 1, none⟩ = some (.string ⟨#[]⟩) := k2.out.cell 1; have c2 : w2.cell? ⟨w.heap.size, 2, none⟩ = some (.int .i64 0) := k2.out.cell 2; have c3 : w2.cell? ⟨w.heap.size, 3, none⟩ = some (.int .i64 0) := k2.out.cell 3; have c4 : w2.cell? ⟨w.heap.size, 4, none⟩ = some (.string ⟨#[]⟩) := k2.out.cell 4; have c5 : w2.cell? ⟨w.heap.size, 5, none⟩ = some (.slice none 0 0) := k2.out.cell 5; have f0 : w2.frozen? ⟨w.heap.size, 0, none⟩ = false := k2.out.froz 0; have f1 : w2.frozen? ⟨w.heap.size, 1, none⟩ = false := k2.out.froz 1; have f2 : w2.frozen? ⟨w.heap.size, 2, none⟩ = false := k2.out.froz 2; have f3 : w2.frozen? ⟨w.heap.size, 3, none⟩ = false := k2.out.froz 3; have f4 : w2.frozen? ⟨w.heap.size, 4, none⟩ = false := k2.out.froz 4; have f5 : w2.frozen? ⟨w.heap.size, 5, none⟩ = false := k2.out.froz 5)
    | (go_at_call 243; refine (minor8_at hS.out HK.out _).mono ?_; rintro r' w' ⟨rfl, rfl⟩))
  have q := headW_blk k2.out 0 0 (⟨#[]⟩)
  have u := headW_below u2.out 0 0 (⟨#[]⟩)
  obtain ⟨Wf, hWf⟩ : ∃ Wf, Wf = headW w2 w.heap.size 0 0 (⟨#[]⟩) := ⟨_, rfl⟩
  have q : Blk Wf w.heap.size #[.string ⟨#[]⟩, .string ⟨#[]⟩, .int .i64 0, .int .i64 0, .string (⟨#[]⟩), .slice none 0 0] 24 := by rw [hWf]; exact q
  have u : Below w.heap.size w Wf := by rw [hWf]; exact u
  have hWf' : (((((w2.setCell ⟨w.heap.size, 0, none⟩ (.string ⟨#[]⟩)).setCell ⟨w.heap.size, 1, none⟩ (.string ⟨#[]⟩)).setCell ⟨w.heap.size, 2, none⟩ (.int .i64 0)).setCell ⟨w.heap.size, 3, none⟩ (.int .i64 0)).setCell ⟨w.heap.size, 4, none⟩ (.string (⟨#[]⟩))).setCell ⟨w.heap.size, 5, none⟩ (.slice none 0 0) = Wf := hWf.symm
  rw [hWf']
  have q0 := q.cell 0
  have q1 := q.cell 1
  have q2 := q.cell 2
  have q3 := q.cell 3
  have q4 := q.cell 4
  have q5 := q.cell 5
  simp only [List.getElem?_toArray, List.getElem?_cons_zero, List.getElem?_cons_succ] at q0 q1 q2 q3 q4 q5
  exact bodyPost_ret (v := .tuple #[.agg #[.string ⟨#[]⟩, .string ⟨#[]⟩, .int .i64 0, .int .i64 0, .string (⟨#[]⟩), .slice none 0 0], .int .i64 12]) (by simp [results, Tryz.results212, go_sem, q0, q1, q2, q3, q4, q5]) rfl ⟨rfl, u⟩
set_option maxRecDepth 100000 in
set_option maxHeartbeats 4000000 in
theorem status_G13 (s : ByteArray) (hs : s.size ≤ 100000) (w : World) (hsz : 13 ≤ s.size) (h8 : bt s 8 = 32) (h12 : bt s 12 = 32) (hf : vform (hd8 s) = true) {n : Int} (hn : numRes (mid3 s).data.toList 10 999 = (n, 0)) {k : Int} (hk : vminor (hd8 s) = (k, 0)) (hn1 : n < 100) :
    Calls Tryz.prog 212 #[.string s] w fun o w' => o = .returned (.tuple #[.agg #[.string ⟨#[]⟩, .string ⟨#[]⟩, .int .i64 0, .int .i64 0, .string (⟨#[]⟩), .slice none 0 0], .int .i64 12]) ∧ Below w.heap.size w w' := by
  have hsi : (s.size : Int) ≤ 100000 := by omega
  have hsj : (12 : Int) ≤ s.size := by omega
  have hlt : decide ((s.size : Int) < 12) = false := by rw [decide_eq_false_iff_not]; omega
  have hsk : (12 : Int) < s.size := by omega
  have hmin : min 13 (s.size : Int) = 13 := by omega
  have i8 : ∀ W : World, (Instr.index 9 (.string s) (.int .i64 8)).run Tryz.prog W = .ok (.int .u8 32) W := index_at s 8 (by omega) h8.symm
  have i12 : ∀ W : World, (Instr.index 9 (.string s) (.int .i64 12)).run Tryz.prog W = .ok (.int .u8 32) W := index_at s 12 (by omega) h12.symm
  have hS : Hid (s.size ≤ 9223372036854775807) := by show s.size ≤ 9223372036854775807; omega
  have HF := Lib.hid hf
  have HN := Lib.hid hn
  have HK := Lib.hid hk
  clear hs h8 h12 hf hn hk
  go_enter Tryz.func212, Tryz.ntmps212
  go_wp2_with (first
    | (go_at_call 244; refine (formed8_at hS.out HF.out _).mono ?_; rintro e' w' ⟨rfl, rfl⟩)
    | (go_at_call 149; refine (dec3_at hS.out HN.out _).mono ?_; rintro r' w2 ⟨rfl, b2⟩; have k2 := Lib.hid ((Blk.new w headZ 24).call b2); have u2 := Lib.hid (((Below.refl w.heap.size w).alloc (Nat.le_refl _) (.cells headZ 24)).trans (b2.mono (by simp))); clear b2; have c0 : w2.cell? ⟨w.heap.size, 0, none⟩ = some (.string ⟨#[]⟩) := k2.out.cell 0; have c1 : w2.cell? ⟨w.heap.size, 1, none⟩ = some (.string ⟨#[]⟩) := k2.out.cell 1; have c2 : w2.cell? ⟨w.heap.size, 2, none⟩ = some (.int .i64 0) := k2.out.cell 2; have c3 : w2.cell? ⟨w.heap.size, 3, none⟩ = some (.int .i64 0) := k2.out.cell 3; have c4 : w2.cell? ⟨w.heap.size, 4, none⟩ = some (.string ⟨#[]⟩) := k2.out.cell 4; have c5 : w2.cell? ⟨w.heap.size, 5, none⟩ = some (.slice none 0 0) := k2.out.cell 5; have f0 : w2.frozen? ⟨w.heap.size, 0, none⟩ = false := k2.out.froz 0; have f1 : w2.frozen? ⟨w.heap.size, 1, none⟩ = false := k2.out.froz 1; have f2 : w2.frozen? ⟨w.heap.size, 2, none⟩ = false := k2.out.froz 2; have f3 : w2.frozen? ⟨w.heap.size, 3, none⟩ = false := k2.out.froz 3; have f4 : w2.frozen? ⟨w.heap.size, 4, none⟩ = false := k2.out.froz 4; have f5 : w2.frozen? ⟨w.heap.size, 5, none⟩ = false := k2.out.froz 5)
    | (go_at_call 243; refine (minor8_at hS.out HK.out _).mono ?_; rintro r' w' ⟨rfl, rfl⟩))
  have q := headW_blk k2.out 0 0 (⟨#[]⟩)
  have u := headW_below u2.out 0 0 (⟨#[]⟩)
  obtain ⟨Wf, hWf⟩ : ∃ Wf, Wf = headW w2 w.heap.size 0 0 (⟨#[]⟩) := ⟨_, rfl⟩
  have q : Blk Wf w.heap.size #[.string ⟨#[]⟩, .string ⟨#[]⟩, .int .i64 0, .int .i64 0, .string (⟨#[]⟩), .slice none 0 0] 24 := by rw [hWf]; exact q
  have u : Below w.heap.size w Wf := by rw [hWf]; exact u
  have hWf' : (((((w2.setCell ⟨w.heap.size, 0, none⟩ (.string ⟨#[]⟩)).setCell ⟨w.heap.size, 1, none⟩ (.string ⟨#[]⟩)).setCell ⟨w.heap.size, 2, none⟩ (.int .i64 0)).setCell ⟨w.heap.size, 3, none⟩ (.int .i64 0)).setCell ⟨w.heap.size, 4, none⟩ (.string (⟨#[]⟩))).setCell ⟨w.heap.size, 5, none⟩ (.slice none 0 0) = Wf := hWf.symm
  rw [hWf']
  have q0 := q.cell 0
  have q1 := q.cell 1
  have q2 := q.cell 2
  have q3 := q.cell 3
  have q4 := q.cell 4
  have q5 := q.cell 5
  simp only [List.getElem?_toArray, List.getElem?_cons_zero, List.getElem?_cons_succ] at q0 q1 q2 q3 q4 q5
  exact bodyPost_ret (v := .tuple #[.agg #[.string ⟨#[]⟩, .string ⟨#[]⟩, .int .i64 0, .int .i64 0, .string (⟨#[]⟩), .slice none 0 0], .int .i64 12]) (by simp [results, Tryz.results212, go_sem, q0, q1, q2, q3, q4, q5]) rfl ⟨rfl, u⟩
set_option maxRecDepth 100000 in
set_option maxHeartbeats 4000000 in
theorem status_H12 (s : ByteArray) (hs : s.size ≤ 100000) (w : World) (hsz : s.size = 12) (h8 : bt s 8 = 32) (hf : vform (hd8 s) = true) {n : Int} (hn : numRes (mid3 s).data.toList 10 999 = (n, 0)) {k : Int} (hk : vminor (hd8 s) = (k, 0)) (hn1 : 599 < n) :
    Calls Tryz.prog 212 #[.string s] w fun o w' => o = .returned (.tuple #[.agg #[.string ⟨#[]⟩, .string ⟨#[]⟩, .int .i64 0, .int .i64 0, .string (⟨#[]⟩), .slice none 0 0], .int .i64 12]) ∧ Below w.heap.size w w' := by
  have hsi : (s.size : Int) ≤ 100000 := by omega
  have hsj : (12 : Int) ≤ s.size := by omega
  have hlt : decide ((s.size : Int) < 12) = false := by rw [decide_eq_false_iff_not]; omega
  have hsk : decide ((12 : Int) < s.size) = false := by rw [decide_eq_false_iff_not]; omega
  have hmin : min 13 (s.size : Int) = 12 := by omega
  have i8 : ∀ W : World, (Instr.index 9 (.string s) (.int .i64 8)).run Tryz.prog W = .ok (.int .u8 32) W := index_at s 8 (by omega) h8.symm
  have hn0 : decide (n < 100) = false := by rw [decide_eq_false_iff_not]; omega
  have hS : Hid (s.size ≤ 9223372036854775807) := by show s.size ≤ 9223372036854775807; omega
  have HF := Lib.hid hf
  have HN := Lib.hid hn
  have HK := Lib.hid hk
  clear hs h8 hf hn hk
  go_enter Tryz.func212, Tryz.ntmps212
  go_wp2_with (first
    | (go_at_call 244; refine (formed8_at hS.out HF.out _).mono ?_; rintro e' w' ⟨rfl, rfl⟩)
    | (go_at_call 149; refine (dec3_at hS.out HN.out _).mono ?_; rintro r' w2 ⟨rfl, b2⟩; have k2 := Lib.hid ((Blk.new w headZ 24).call b2); have u2 := Lib.hid (((Below.refl w.heap.size w).alloc (Nat.le_refl _) (.cells headZ 24)).trans (b2.mono (by simp))); clear b2; have c0 : w2.cell? ⟨w.heap.size, 0, none⟩ = some (.string ⟨#[]⟩) := k2.out.cell 0; have c1 : w2.cell? ⟨w.heap.size, 1, none⟩ = some (.string ⟨#[]⟩) := k2.out.cell 1; have c2 : w2.cell? ⟨w.heap.size, 2, none⟩ = some (.int .i64 0) := k2.out.cell 2; have c3 : w2.cell? ⟨w.heap.size, 3, none⟩ = some (.int .i64 0) := k2.out.cell 3; have c4 : w2.cell? ⟨w.heap.size, 4, none⟩ = some (.string ⟨#[]⟩) := k2.out.cell 4; have c5 : w2.cell? ⟨w.heap.size, 5, none⟩ = some (.slice none 0 0) := k2.out.cell 5; have f0 : w2.frozen? ⟨w.heap.size, 0, none⟩ = false := k2.out.froz 0; have f1 : w2.frozen? ⟨w.heap.size, 1, none⟩ = false := k2.out.froz 1; have f2 : w2.frozen? ⟨w.heap.size, 2, none⟩ = false := k2.out.froz 2; have f3 : w2.frozen? ⟨w.heap.size, 3, none⟩ = false := k2.out.froz 3; have f4 : w2.frozen? ⟨w.heap.size, 4, none⟩ = false := k2.out.froz 4; have f5 : w2.frozen? ⟨w.heap.size, 5, none⟩ = false := k2.out.froz 5)
    | (go_at_call 243; refine (minor8_at hS.out HK.out _).mono ?_; rintro r' w' ⟨rfl, rfl⟩))
  have q := headW_blk k2.out 0 0 (⟨#[]⟩)
  have u := headW_below u2.out 0 0 (⟨#[]⟩)
  obtain ⟨Wf, hWf⟩ : ∃ Wf, Wf = headW w2 w.heap.size 0 0 (⟨#[]⟩) := ⟨_, rfl⟩
  have q : Blk Wf w.heap.size #[.string ⟨#[]⟩, .string ⟨#[]⟩, .int .i64 0, .int .i64 0, .string (⟨#[]⟩), .slice none 0 0] 24 := by rw [hWf]; exact q
  have u : Below w.heap.size w Wf := by rw [hWf]; exact u
  have hWf' : (((((w2.setCell ⟨w.heap.size, 0, none⟩ (.string ⟨#[]⟩)).setCell ⟨w.heap.size, 1, none⟩ (.string ⟨#[]⟩)).setCell ⟨w.heap.size, 2, none⟩ (.int .i64 0)).setCell ⟨w.heap.size, 3, none⟩ (.int .i64 0)).setCell ⟨w.heap.size, 4, none⟩ (.string (⟨#[]⟩))).setCell ⟨w.heap.size, 5, none⟩ (.slice none 0 0) = Wf := hWf.symm
  rw [hWf']
  have q0 := q.cell 0
  have q1 := q.cell 1
  have q2 := q.cell 2
  have q3 := q.cell 3
  have q4 := q.cell 4
  have q5 := q.cell 5
  simp only [List.getElem?_toArray, List.getElem?_cons_zero, List.getElem?_cons_succ] at q0 q1 q2 q3 q4 q5
  exact bodyPost_ret (v := .tuple #[.agg #[.string ⟨#[]⟩, .string ⟨#[]⟩, .int .i64 0, .int .i64 0, .string (⟨#[]⟩), .slice none 0 0], .int .i64 12]) (by simp [results, Tryz.results212, go_sem, q0, q1, q2, q3, q4, q5]) rfl ⟨rfl, u⟩
set_option maxRecDepth 100000 in
set_option maxHeartbeats 4000000 in
theorem status_H13 (s : ByteArray) (hs : s.size ≤ 100000) (w : World) (hsz : 13 ≤ s.size) (h8 : bt s 8 = 32) (h12 : bt s 12 = 32) (hf : vform (hd8 s) = true) {n : Int} (hn : numRes (mid3 s).data.toList 10 999 = (n, 0)) {k : Int} (hk : vminor (hd8 s) = (k, 0)) (hn1 : 599 < n) :
    Calls Tryz.prog 212 #[.string s] w fun o w' => o = .returned (.tuple #[.agg #[.string ⟨#[]⟩, .string ⟨#[]⟩, .int .i64 0, .int .i64 0, .string (⟨#[]⟩), .slice none 0 0], .int .i64 12]) ∧ Below w.heap.size w w' := by
  have hsi : (s.size : Int) ≤ 100000 := by omega
  have hsj : (12 : Int) ≤ s.size := by omega
  have hlt : decide ((s.size : Int) < 12) = false := by rw [decide_eq_false_iff_not]; omega
  have hsk : (12 : Int) < s.size := by omega
  have hmin : min 13 (s.size : Int) = 13 := by omega
  have i8 : ∀ W : World, (Instr.index 9 (.string s) (.int .i64 8)).run Tryz.prog W = .ok (.int .u8 32) W := index_at s 8 (by omega) h8.symm
  have i12 : ∀ W : World, (Instr.index 9 (.string s) (.int .i64 12)).run Tryz.prog W = .ok (.int .u8 32) W := index_at s 12 (by omega) h12.symm
  have hn0 : decide (n < 100) = false := by rw [decide_eq_false_iff_not]; omega
  have hS : Hid (s.size ≤ 9223372036854775807) := by show s.size ≤ 9223372036854775807; omega
  have HF := Lib.hid hf
  have HN := Lib.hid hn
  have HK := Lib.hid hk
  clear hs h8 h12 hf hn hk
  go_enter Tryz.func212, Tryz.ntmps212
  go_wp2_with (first
    | (go_at_call 244; refine (formed8_at hS.out HF.out _).mono ?_; rintro e' w' ⟨rfl, rfl⟩)
    | (go_at_call 149; refine (dec3_at hS.out HN.out _).mono ?_; rintro r' w2 ⟨rfl, b2⟩; have k2 := Lib.hid ((Blk.new w headZ 24).call b2); have u2 := Lib.hid (((Below.refl w.heap.size w).alloc (Nat.le_refl _) (.cells headZ 24)).trans (b2.mono (by simp))); clear b2; have c0 : w2.cell? ⟨w.heap.size, 0, none⟩ = some (.string ⟨#[]⟩) := k2.out.cell 0; have c1 : w2.cell? ⟨w.heap.size, 1, none⟩ = some (.string ⟨#[]⟩) := k2.out.cell 1; have c2 : w2.cell? ⟨w.heap.size, 2, none⟩ = some (.int .i64 0) := k2.out.cell 2; have c3 : w2.cell? ⟨w.heap.size, 3, none⟩ = some (.int .i64 0) := k2.out.cell 3; have c4 : w2.cell? ⟨w.heap.size, 4, none⟩ = some (.string ⟨#[]⟩) := k2.out.cell 4; have c5 : w2.cell? ⟨w.heap.size, 5, none⟩ = some (.slice none 0 0) := k2.out.cell 5; have f0 : w2.frozen? ⟨w.heap.size, 0, none⟩ = false := k2.out.froz 0; have f1 : w2.frozen? ⟨w.heap.size, 1, none⟩ = false := k2.out.froz 1; have f2 : w2.frozen? ⟨w.heap.size, 2, none⟩ = false := k2.out.froz 2; have f3 : w2.frozen? ⟨w.heap.size, 3, none⟩ = false := k2.out.froz 3; have f4 : w2.frozen? ⟨w.heap.size, 4, none⟩ = false := k2.out.froz 4; have f5 : w2.frozen? ⟨w.heap.size, 5, none⟩ = false := k2.out.froz 5)
    | (go_at_call 243; refine (minor8_at hS.out HK.out _).mono ?_; rintro r' w' ⟨rfl, rfl⟩))
  have q := headW_blk k2.out 0 0 (⟨#[]⟩)
  have u := headW_below u2.out 0 0 (⟨#[]⟩)
  obtain ⟨Wf, hWf⟩ : ∃ Wf, Wf = headW w2 w.heap.size 0 0 (⟨#[]⟩) := ⟨_, rfl⟩
  have q : Blk Wf w.heap.size #[.string ⟨#[]⟩, .string ⟨#[]⟩, .int .i64 0, .int .i64 0, .string (⟨#[]⟩), .slice none 0 0] 24 := by rw [hWf]; exact q
  have u : Below w.heap.size w Wf := by rw [hWf]; exact u
  have hWf' : (((((w2.setCell ⟨w.heap.size, 0, none⟩ (.string ⟨#[]⟩)).setCell ⟨w.heap.size, 1, none⟩ (.string ⟨#[]⟩)).setCell ⟨w.heap.size, 2, none⟩ (.int .i64 0)).setCell ⟨w.heap.size, 3, none⟩ (.int .i64 0)).setCell ⟨w.heap.size, 4, none⟩ (.string (⟨#[]⟩))).setCell ⟨w.heap.size, 5, none⟩ (.slice none 0 0) = Wf := hWf.symm
  rw [hWf']
  have q0 := q.cell 0
  have q1 := q.cell 1
  have q2 := q.cell 2
  have q3 := q.cell 3
  have q4 := q.cell 4
  have q5 := q.cell 5
  simp only [List.getElem?_toArray, List.getElem?_cons_zero, List.getElem?_cons_succ] at q0 q1 q2 q3 q4 q5
  exact bodyPost_ret (v := .tuple #[.agg #[.string ⟨#[]⟩, .string ⟨#[]⟩, .int .i64 0, .int .i64 0, .string (⟨#[]⟩), .slice none 0 0], .int .i64 12]) (by simp [results, Tryz.results212, go_sem, q0, q1, q2, q3, q4, q5]) rfl ⟨rfl, u⟩
set_option maxRecDepth 100000 in
set_option maxHeartbeats 4000000 in
theorem status_I12 (s : ByteArray) (hs : s.size ≤ 100000) (w : World) (hsz : s.size = 12) (h8 : bt s 8 = 32) (hf : vform (hd8 s) = true) {n : Int} (hn : numRes (mid3 s).data.toList 10 999 = (n, 0)) {k : Int} (hk : vminor (hd8 s) = (k, 0)) (hn1 : 100 ≤ n) (hn2 : n ≤ 599) (hv : valL (rest13 s).data.toList = false) :
    Calls Tryz.prog 212 #[.string s] w fun o w' => o = .returned (.tuple #[.agg #[.string ⟨#[]⟩, .string ⟨#[]⟩, .int .i64 0, .int .i64 0, .string (⟨#[]⟩), .slice none 0 0], .int .i64 7]) ∧ Below w.heap.size w w' := by
  have hsi : (s.size : Int) ≤ 100000 := by omega
  have hsj : (12 : Int) ≤ s.size := by omega
  have hlt : decide ((s.size : Int) < 12) = false := by rw [decide_eq_false_iff_not]; omega
  have hsk : decide ((12 : Int) < s.size) = false := by rw [decide_eq_false_iff_not]; omega
  have hmin : min 13 (s.size : Int) = 12 := by omega
  have i8 : ∀ W : World, (Instr.index 9 (.string s) (.int .i64 8)).run Tryz.prog W = .ok (.int .u8 32) W := index_at s 8 (by omega) h8.symm
  have hn3 : decide (n < 100) = false := by rw [decide_eq_false_iff_not]; omega
  have hn4 : decide (599 < n) = false := by rw [decide_eq_false_iff_not]; omega
  have hS : Hid (s.size ≤ 9223372036854775807) := by show s.size ≤ 9223372036854775807; omega
  have HF := Lib.hid hf
  have HN := Lib.hid hn
  have HK := Lib.hid hk
  have HV := Lib.hid hv
  have hM : Hid (min 13 s.size = 12) := by show min 13 s.size = 12; omega
  have hR : Hid (s.extract (min (13 : Int) 12).toNat 12 = rest13 s) := by show s.extract (min (13 : Int) 12).toNat 12 = rest13 s; unfold rest13; rw [hM.out]; rw [show s.size = 12 from hsz]; rfl
  clear hs h8 hf hn hk hv
  go_enter Tryz.func212, Tryz.ntmps212
  go_wp2_with (first
    | (go_at_call 244; refine (formed8_at hS.out HF.out _).mono ?_; rintro e' w' ⟨rfl, rfl⟩)
    | (go_at_call 149; refine (dec3_at hS.out HN.out _).mono ?_; rintro r' w2 ⟨rfl, b2⟩; have k2 := Lib.hid ((Blk.new w headZ 24).call b2); have u2 := Lib.hid (((Below.refl w.heap.size w).alloc (Nat.le_refl _) (.cells headZ 24)).trans (b2.mono (by simp))); clear b2; have c0 : w2.cell? ⟨w.heap.size, 0, none⟩ = some (.string ⟨#[]⟩) := k2.out.cell 0; have c1 : w2.cell? ⟨w.heap.size, 1, none⟩ = some (.string ⟨#[]⟩) := k2.out.cell 1; have c2 : w2.cell? ⟨w.heap.size, 2, none⟩ = some (.int .i64 0) := k2.out.cell 2; have c3 : w2.cell? ⟨w.heap.size, 3, none⟩ = some (.int .i64 0) := k2.out.cell 3; have c4 : w2.cell? ⟨w.heap.size, 4, none⟩ = some (.string ⟨#[]⟩) := k2.out.cell 4; have c5 : w2.cell? ⟨w.heap.size, 5, none⟩ = some (.slice none 0 0) := k2.out.cell 5; have f0 : w2.frozen? ⟨w.heap.size, 0, none⟩ = false := k2.out.froz 0; have f1 : w2.frozen? ⟨w.heap.size, 1, none⟩ = false := k2.out.froz 1; have f2 : w2.frozen? ⟨w.heap.size, 2, none⟩ = false := k2.out.froz 2; have f3 : w2.frozen? ⟨w.heap.size, 3, none⟩ = false := k2.out.froz 3; have f4 : w2.frozen? ⟨w.heap.size, 4, none⟩ = false := k2.out.froz 4; have f5 : w2.frozen? ⟨w.heap.size, 5, none⟩ = false := k2.out.froz 5)
    | (go_at_call 243; refine (minor8_at hS.out HK.out _).mono ?_; rintro r' w' ⟨rfl, rfl⟩)
    | (go_at_call 115; refine (value13_at hS.out hR.out HV.out _).mono ?_; rintro r' w3 ⟨rfl, b3⟩; have k3 := Lib.hid (k2.out.call b3); have u3 := Lib.hid (u2.out.trans (b3.mono (by have := k2.out.lt; omega))); clear b3; clear c0 c1 c2 c3 c4 c5 f0 f1 f2 f3 f4 f5; have c0 : w3.cell? ⟨w.heap.size, 0, none⟩ = some (.string ⟨#[]⟩) := k3.out.cell 0; have c1 : w3.cell? ⟨w.heap.size, 1, none⟩ = some (.string ⟨#[]⟩) := k3.out.cell 1; have c2 : w3.cell? ⟨w.heap.size, 2, none⟩ = some (.int .i64 0) := k3.out.cell 2; have c3 : w3.cell? ⟨w.heap.size, 3, none⟩ = some (.int .i64 0) := k3.out.cell 3; have c4 : w3.cell? ⟨w.heap.size, 4, none⟩ = some (.string ⟨#[]⟩) := k3.out.cell 4; have c5 : w3.cell? ⟨w.heap.size, 5, none⟩ = some (.slice none 0 0) := k3.out.cell 5; have f0 : w3.frozen? ⟨w.heap.size, 0, none⟩ = false := k3.out.froz 0; have f1 : w3.frozen? ⟨w.heap.size, 1, none⟩ = false := k3.out.froz 1; have f2 : w3.frozen? ⟨w.heap.size, 2, none⟩ = false := k3.out.froz 2; have f3 : w3.frozen? ⟨w.heap.size, 3, none⟩ = false := k3.out.froz 3; have f4 : w3.frozen? ⟨w.heap.size, 4, none⟩ = false := k3.out.froz 4; have f5 : w3.frozen? ⟨w.heap.size, 5, none⟩ = false := k3.out.froz 5))
  have q := headW_blk k3.out 0 0 (⟨#[]⟩)
  have u := headW_below u3.out 0 0 (⟨#[]⟩)
  obtain ⟨Wf, hWf⟩ : ∃ Wf, Wf = headW w3 w.heap.size 0 0 (⟨#[]⟩) := ⟨_, rfl⟩
  have q : Blk Wf w.heap.size #[.string ⟨#[]⟩, .string ⟨#[]⟩, .int .i64 0, .int .i64 0, .string (⟨#[]⟩), .slice none 0 0] 24 := by rw [hWf]; exact q
  have u : Below w.heap.size w Wf := by rw [hWf]; exact u
  have hWf' : (((((w3.setCell ⟨w.heap.size, 0, none⟩ (.string ⟨#[]⟩)).setCell ⟨w.heap.size, 1, none⟩ (.string ⟨#[]⟩)).setCell ⟨w.heap.size, 2, none⟩ (.int .i64 0)).setCell ⟨w.heap.size, 3, none⟩ (.int .i64 0)).setCell ⟨w.heap.size, 4, none⟩ (.string (⟨#[]⟩))).setCell ⟨w.heap.size, 5, none⟩ (.slice none 0 0) = Wf := hWf.symm
  rw [hWf']
  have q0 := q.cell 0
  have q1 := q.cell 1
  have q2 := q.cell 2
  have q3 := q.cell 3
  have q4 := q.cell 4
  have q5 := q.cell 5
  simp only [List.getElem?_toArray, List.getElem?_cons_zero, List.getElem?_cons_succ] at q0 q1 q2 q3 q4 q5
  exact bodyPost_ret (v := .tuple #[.agg #[.string ⟨#[]⟩, .string ⟨#[]⟩, .int .i64 0, .int .i64 0, .string (⟨#[]⟩), .slice none 0 0], .int .i64 7]) (by simp [results, Tryz.results212, go_sem, q0, q1, q2, q3, q4, q5]) rfl ⟨rfl, u⟩
set_option maxRecDepth 100000 in
set_option maxHeartbeats 4000000 in
theorem status_I13 (s : ByteArray) (hs : s.size ≤ 100000) (w : World) (hsz : 13 ≤ s.size) (h8 : bt s 8 = 32) (h12 : bt s 12 = 32) (hf : vform (hd8 s) = true) {n : Int} (hn : numRes (mid3 s).data.toList 10 999 = (n, 0)) {k : Int} (hk : vminor (hd8 s) = (k, 0)) (hn1 : 100 ≤ n) (hn2 : n ≤ 599) (hv : valL (rest13 s).data.toList = false) :
    Calls Tryz.prog 212 #[.string s] w fun o w' => o = .returned (.tuple #[.agg #[.string ⟨#[]⟩, .string ⟨#[]⟩, .int .i64 0, .int .i64 0, .string (⟨#[]⟩), .slice none 0 0], .int .i64 7]) ∧ Below w.heap.size w w' := by
  have hsi : (s.size : Int) ≤ 100000 := by omega
  have hsj : (12 : Int) ≤ s.size := by omega
  have hlt : decide ((s.size : Int) < 12) = false := by rw [decide_eq_false_iff_not]; omega
  have hsk : (12 : Int) < s.size := by omega
  have hmin : min 13 (s.size : Int) = 13 := by omega
  have i8 : ∀ W : World, (Instr.index 9 (.string s) (.int .i64 8)).run Tryz.prog W = .ok (.int .u8 32) W := index_at s 8 (by omega) h8.symm
  have i12 : ∀ W : World, (Instr.index 9 (.string s) (.int .i64 12)).run Tryz.prog W = .ok (.int .u8 32) W := index_at s 12 (by omega) h12.symm
  have hn3 : decide (n < 100) = false := by rw [decide_eq_false_iff_not]; omega
  have hn4 : decide (599 < n) = false := by rw [decide_eq_false_iff_not]; omega
  have hS : Hid (s.size ≤ 9223372036854775807) := by show s.size ≤ 9223372036854775807; omega
  have HF := Lib.hid hf
  have HN := Lib.hid hn
  have HK := Lib.hid hk
  have HV := Lib.hid hv
  have hM : Hid (min 13 s.size = 13) := by show min 13 s.size = 13; omega
  have hR : Hid (s.extract 13 s.size = rest13 s) := by show s.extract 13 s.size = rest13 s; unfold rest13; rw [hM.out]
  clear hs h8 h12 hf hn hk hv
  go_enter Tryz.func212, Tryz.ntmps212
  go_wp2_with (first
    | (go_at_call 244; refine (formed8_at hS.out HF.out _).mono ?_; rintro e' w' ⟨rfl, rfl⟩)
    | (go_at_call 149; refine (dec3_at hS.out HN.out _).mono ?_; rintro r' w2 ⟨rfl, b2⟩; have k2 := Lib.hid ((Blk.new w headZ 24).call b2); have u2 := Lib.hid (((Below.refl w.heap.size w).alloc (Nat.le_refl _) (.cells headZ 24)).trans (b2.mono (by simp))); clear b2; have c0 : w2.cell? ⟨w.heap.size, 0, none⟩ = some (.string ⟨#[]⟩) := k2.out.cell 0; have c1 : w2.cell? ⟨w.heap.size, 1, none⟩ = some (.string ⟨#[]⟩) := k2.out.cell 1; have c2 : w2.cell? ⟨w.heap.size, 2, none⟩ = some (.int .i64 0) := k2.out.cell 2; have c3 : w2.cell? ⟨w.heap.size, 3, none⟩ = some (.int .i64 0) := k2.out.cell 3; have c4 : w2.cell? ⟨w.heap.size, 4, none⟩ = some (.string ⟨#[]⟩) := k2.out.cell 4; have c5 : w2.cell? ⟨w.heap.size, 5, none⟩ = some (.slice none 0 0) := k2.out.cell 5; have f0 : w2.frozen? ⟨w.heap.size, 0, none⟩ = false := k2.out.froz 0; have f1 : w2.frozen? ⟨w.heap.size, 1, none⟩ = false := k2.out.froz 1; have f2 : w2.frozen? ⟨w.heap.size, 2, none⟩ = false := k2.out.froz 2; have f3 : w2.frozen? ⟨w.heap.size, 3, none⟩ = false := k2.out.froz 3; have f4 : w2.frozen? ⟨w.heap.size, 4, none⟩ = false := k2.out.froz 4; have f5 : w2.frozen? ⟨w.heap.size, 5, none⟩ = false := k2.out.froz 5)
    | (go_at_call 243; refine (minor8_at hS.out HK.out _).mono ?_; rintro r' w' ⟨rfl, rfl⟩)
    | (go_at_call 115; refine (value13_at hS.out hR.out HV.out _).mono ?_; rintro r' w3 ⟨rfl, b3⟩; have k3 := Lib.hid (k2.out.call b3); have u3 := Lib.hid (u2.out.trans (b3.mono (by have := k2.out.lt; omega))); clear b3; clear c0 c1 c2 c3 c4 c5 f0 f1 f2 f3 f4 f5; have c0 : w3.cell? ⟨w.heap.size, 0, none⟩ = some (.string ⟨#[]⟩) := k3.out.cell 0; have c1 : w3.cell? ⟨w.heap.size, 1, none⟩ = some (.string ⟨#[]⟩) := k3.out.cell 1; have c2 : w3.cell? ⟨w.heap.size, 2, none⟩ = some (.int .i64 0) := k3.out.cell 2; have c3 : w3.cell? ⟨w.heap.size, 3, none⟩ = some (.int .i64 0) := k3.out.cell 3; have c4 : w3.cell? ⟨w.heap.size, 4, none⟩ = some (.string ⟨#[]⟩) := k3.out.cell 4; have c5 : w3.cell? ⟨w.heap.size, 5, none⟩ = some (.slice none 0 0) := k3.out.cell 5; have f0 : w3.frozen? ⟨w.heap.size, 0, none⟩ = false := k3.out.froz 0; have f1 : w3.frozen? ⟨w.heap.size, 1, none⟩ = false := k3.out.froz 1; have f2 : w3.frozen? ⟨w.heap.size, 2, none⟩ = false := k3.out.froz 2; have f3 : w3.frozen? ⟨w.heap.size, 3, none⟩ = false := k3.out.froz 3; have f4 : w3.frozen? ⟨w.heap.size, 4, none⟩ = false := k3.out.froz 4; have f5 : w3.frozen? ⟨w.heap.size, 5, none⟩ = false := k3.out.froz 5))
  have q := headW_blk k3.out 0 0 (⟨#[]⟩)
  have u := headW_below u3.out 0 0 (⟨#[]⟩)
  obtain ⟨Wf, hWf⟩ : ∃ Wf, Wf = headW w3 w.heap.size 0 0 (⟨#[]⟩) := ⟨_, rfl⟩
  have q : Blk Wf w.heap.size #[.string ⟨#[]⟩, .string ⟨#[]⟩, .int .i64 0, .int .i64 0, .string (⟨#[]⟩), .slice none 0 0] 24 := by rw [hWf]; exact q
  have u : Below w.heap.size w Wf := by rw [hWf]; exact u
  have hWf' : (((((w3.setCell ⟨w.heap.size, 0, none⟩ (.string ⟨#[]⟩)).setCell ⟨w.heap.size, 1, none⟩ (.string ⟨#[]⟩)).setCell ⟨w.heap.size, 2, none⟩ (.int .i64 0)).setCell ⟨w.heap.size, 3, none⟩ (.int .i64 0)).setCell ⟨w.heap.size, 4, none⟩ (.string (⟨#[]⟩))).setCell ⟨w.heap.size, 5, none⟩ (.slice none 0 0) = Wf := hWf.symm
  rw [hWf']
  have q0 := q.cell 0
  have q1 := q.cell 1
  have q2 := q.cell 2
  have q3 := q.cell 3
  have q4 := q.cell 4
  have q5 := q.cell 5
  simp only [List.getElem?_toArray, List.getElem?_cons_zero, List.getElem?_cons_succ] at q0 q1 q2 q3 q4 q5
  exact bodyPost_ret (v := .tuple #[.agg #[.string ⟨#[]⟩, .string ⟨#[]⟩, .int .i64 0, .int .i64 0, .string (⟨#[]⟩), .slice none 0 0], .int .i64 7]) (by simp [results, Tryz.results212, go_sem, q0, q1, q2, q3, q4, q5]) rfl ⟨rfl, u⟩
set_option maxRecDepth 100000 in
set_option maxHeartbeats 4000000 in
theorem status_J12 (s : ByteArray) (hs : s.size ≤ 100000) (w : World) (hsz : s.size = 12) (h8 : bt s 8 = 32) (hf : vform (hd8 s) = true) {n : Int} (hn : numRes (mid3 s).data.toList 10 999 = (n, 0)) {k : Int} (hk : vminor (hd8 s) = (k, 0)) (hn1 : 100 ≤ n) (hn2 : n ≤ 599) (hv : valL (rest13 s).data.toList = true) :
    Calls Tryz.prog 212 #[.string s] w fun o w' => o = .returned (.tuple #[.agg #[.string ⟨#[]⟩, .string ⟨#[]⟩, .int .i64 k, .int .i64 n, .string (rest13 s), .slice none 0 0], .int .i64 0]) ∧ Below w.heap.size w w' := by
  have hsi : (s.size : Int) ≤ 100000 := by omega
  have hsj : (12 : Int) ≤ s.size := by omega
  have hlt : decide ((s.size : Int) < 12) = false := by rw [decide_eq_false_iff_not]; omega
  have hsk : decide ((12 : Int) < s.size) = false := by rw [decide_eq_false_iff_not]; omega
  have hmin : min 13 (s.size : Int) = 12 := by omega
  have i8 : ∀ W : World, (Instr.index 9 (.string s) (.int .i64 8)).run Tryz.prog W = .ok (.int .u8 32) W := index_at s 8 (by omega) h8.symm
  have hn3 : decide (n < 100) = false := by rw [decide_eq_false_iff_not]; omega
  have hn4 : decide (599 < n) = false := by rw [decide_eq_false_iff_not]; omega
  have hS : Hid (s.size ≤ 9223372036854775807) := by show s.size ≤ 9223372036854775807; omega
  have HF := Lib.hid hf
  have HN := Lib.hid hn
  have HK := Lib.hid hk
  have HV := Lib.hid hv
  have hM : Hid (min 13 s.size = 12) := by show min 13 s.size = 12; omega
  have hR : Hid (s.extract (min (13 : Int) 12).toNat 12 = rest13 s) := by show s.extract (min (13 : Int) 12).toNat 12 = rest13 s; unfold rest13; rw [hM.out]; rw [show s.size = 12 from hsz]; rfl
  clear hs h8 hf hn hk hv
  go_enter Tryz.func212, Tryz.ntmps212
  go_wp2_with (first
    | (go_at_call 244; refine (formed8_at hS.out HF.out _).mono ?_; rintro e' w' ⟨rfl, rfl⟩)
    | (go_at_call 149; refine (dec3_at hS.out HN.out _).mono ?_; rintro r' w2 ⟨rfl, b2⟩; have k2 := Lib.hid ((Blk.new w headZ 24).call b2); have u2 := Lib.hid (((Below.refl w.heap.size w).alloc (Nat.le_refl _) (.cells headZ 24)).trans (b2.mono (by simp))); clear b2; have c0 : w2.cell? ⟨w.heap.size, 0, none⟩ = some (.string ⟨#[]⟩) := k2.out.cell 0; have c1 : w2.cell? ⟨w.heap.size, 1, none⟩ = some (.string ⟨#[]⟩) := k2.out.cell 1; have c2 : w2.cell? ⟨w.heap.size, 2, none⟩ = some (.int .i64 0) := k2.out.cell 2; have c3 : w2.cell? ⟨w.heap.size, 3, none⟩ = some (.int .i64 0) := k2.out.cell 3; have c4 : w2.cell? ⟨w.heap.size, 4, none⟩ = some (.string ⟨#[]⟩) := k2.out.cell 4; have c5 : w2.cell? ⟨w.heap.size, 5, none⟩ = some (.slice none 0 0) := k2.out.cell 5; have f0 : w2.frozen? ⟨w.heap.size, 0, none⟩ = false := k2.out.froz 0; have f1 : w2.frozen? ⟨w.heap.size, 1, none⟩ = false := k2.out.froz 1; have f2 : w2.frozen? ⟨w.heap.size, 2, none⟩ = false := k2.out.froz 2; have f3 : w2.frozen? ⟨w.heap.size, 3, none⟩ = false := k2.out.froz 3; have f4 : w2.frozen? ⟨w.heap.size, 4, none⟩ = false := k2.out.froz 4; have f5 : w2.frozen? ⟨w.heap.size, 5, none⟩ = false := k2.out.froz 5)
    | (go_at_call 243; refine (minor8_at hS.out HK.out _).mono ?_; rintro r' w' ⟨rfl, rfl⟩)
    | (go_at_call 115; refine (value13_at hS.out hR.out HV.out _).mono ?_; rintro r' w3 ⟨rfl, b3⟩; have k3 := Lib.hid (k2.out.call b3); have u3 := Lib.hid (u2.out.trans (b3.mono (by have := k2.out.lt; omega))); clear b3; clear c0 c1 c2 c3 c4 c5 f0 f1 f2 f3 f4 f5; have c0 : w3.cell? ⟨w.heap.size, 0, none⟩ = some (.string ⟨#[]⟩) := k3.out.cell 0; have c1 : w3.cell? ⟨w.heap.size, 1, none⟩ = some (.string ⟨#[]⟩) := k3.out.cell 1; have c2 : w3.cell? ⟨w.heap.size, 2, none⟩ = some (.int .i64 0) := k3.out.cell 2; have c3 : w3.cell? ⟨w.heap.size, 3, none⟩ = some (.int .i64 0) := k3.out.cell 3; have c4 : w3.cell? ⟨w.heap.size, 4, none⟩ = some (.string ⟨#[]⟩) := k3.out.cell 4; have c5 : w3.cell? ⟨w.heap.size, 5, none⟩ = some (.slice none 0 0) := k3.out.cell 5; have f0 : w3.frozen? ⟨w.heap.size, 0, none⟩ = false := k3.out.froz 0; have f1 : w3.frozen? ⟨w.heap.size, 1, none⟩ = false := k3.out.froz 1; have f2 : w3.frozen? ⟨w.heap.size, 2, none⟩ = false := k3.out.froz 2; have f3 : w3.frozen? ⟨w.heap.size, 3, none⟩ = false := k3.out.froz 3; have f4 : w3.frozen? ⟨w.heap.size, 4, none⟩ = false := k3.out.froz 4; have f5 : w3.frozen? ⟨w.heap.size, 5, none⟩ = false := k3.out.froz 5))
  have q := headW_blk k3.out k n (s.extract (min (13 : Int) 12).toNat 12)
  have u := headW_below u3.out k n (s.extract (min (13 : Int) 12).toNat 12)
  obtain ⟨Wf, hWf⟩ : ∃ Wf, Wf = headW w3 w.heap.size k n (s.extract (min (13 : Int) 12).toNat 12) := ⟨_, rfl⟩
  have q : Blk Wf w.heap.size #[.string ⟨#[]⟩, .string ⟨#[]⟩, .int .i64 k, .int .i64 n, .string (s.extract (min (13 : Int) 12).toNat 12), .slice none 0 0] 24 := by rw [hWf]; exact q
  have u : Below w.heap.size w Wf := by rw [hWf]; exact u
  have hWf' : (((((w3.setCell ⟨w.heap.size, 0, none⟩ (.string ⟨#[]⟩)).setCell ⟨w.heap.size, 1, none⟩ (.string ⟨#[]⟩)).setCell ⟨w.heap.size, 2, none⟩ (.int .i64 k)).setCell ⟨w.heap.size, 3, none⟩ (.int .i64 n)).setCell ⟨w.heap.size, 4, none⟩ (.string (s.extract (min (13 : Int) 12).toNat 12))).setCell ⟨w.heap.size, 5, none⟩ (.slice none 0 0) = Wf := hWf.symm
  rw [hWf']
  have q0 := q.cell 0
  have q1 := q.cell 1
  have q2 := q.cell 2
  have q3 := q.cell 3
  have q4 := q.cell 4
  have q5 := q.cell 5
  simp only [List.getElem?_toArray, List.getElem?_cons_zero, List.getElem?_cons_succ] at q0 q1 q2 q3 q4 q5
  rw [hR.out] at q4
  exact bodyPost_ret (v := .tuple #[.agg #[.string ⟨#[]⟩, .string ⟨#[]⟩, .int .i64 k, .int .i64 n, .string (rest13 s), .slice none 0 0], .int .i64 0]) (by simp [results, Tryz.results212, go_sem, q0, q1, q2, q3, q4, q5]) rfl ⟨rfl, u⟩
set_option maxRecDepth 100000 in
set_option maxHeartbeats 4000000 in
theorem status_J13 (s : ByteArray) (hs : s.size ≤ 100000) (w : World) (hsz : 13 ≤ s.size) (h8 : bt s 8 = 32) (h12 : bt s 12 = 32) (hf : vform (hd8 s) = true) {n : Int} (hn : numRes (mid3 s).data.toList 10 999 = (n, 0)) {k : Int} (hk : vminor (hd8 s) = (k, 0)) (hn1 : 100 ≤ n) (hn2 : n ≤ 599) (hv : valL (rest13 s).data.toList = true) :
    Calls Tryz.prog 212 #[.string s] w fun o w' => o = .returned (.tuple #[.agg #[.string ⟨#[]⟩, .string ⟨#[]⟩, .int .i64 k, .int .i64 n, .string (rest13 s), .slice none 0 0], .int .i64 0]) ∧ Below w.heap.size w w' := by
  have hsi : (s.size : Int) ≤ 100000 := by omega
  have hsj : (12 : Int) ≤ s.size := by omega
  have hlt : decide ((s.size : Int) < 12) = false := by rw [decide_eq_false_iff_not]; omega
  have hsk : (12 : Int) < s.size := by omega
  have hmin : min 13 (s.size : Int) = 13 := by omega
  have i8 : ∀ W : World, (Instr.index 9 (.string s) (.int .i64 8)).run Tryz.prog W = .ok (.int .u8 32) W := index_at s 8 (by omega) h8.symm
  have i12 : ∀ W : World, (Instr.index 9 (.string s) (.int .i64 12)).run Tryz.prog W = .ok (.int .u8 32) W := index_at s 12 (by omega) h12.symm
  have hn3 : decide (n < 100) = false := by rw [decide_eq_false_iff_not]; omega
  have hn4 : decide (599 < n) = false := by rw [decide_eq_false_iff_not]; omega
  have hS : Hid (s.size ≤ 9223372036854775807) := by show s.size ≤ 9223372036854775807; omega
  have HF := Lib.hid hf
  have HN := Lib.hid hn
  have HK := Lib.hid hk
  have HV := Lib.hid hv
  have hM : Hid (min 13 s.size = 13) := by show min 13 s.size = 13; omega
  have hR : Hid (s.extract 13 s.size = rest13 s) := by show s.extract 13 s.size = rest13 s; unfold rest13; rw [hM.out]
  clear hs h8 h12 hf hn hk hv
  go_enter Tryz.func212, Tryz.ntmps212
  go_wp2_with (first
    | (go_at_call 244; refine (formed8_at hS.out HF.out _).mono ?_; rintro e' w' ⟨rfl, rfl⟩)
    | (go_at_call 149; refine (dec3_at hS.out HN.out _).mono ?_; rintro r' w2 ⟨rfl, b2⟩; have k2 := Lib.hid ((Blk.new w headZ 24).call b2); have u2 := Lib.hid (((Below.refl w.heap.size w).alloc (Nat.le_refl _) (.cells headZ 24)).trans (b2.mono (by simp))); clear b2; have c0 : w2.cell? ⟨w.heap.size, 0, none⟩ = some (.string ⟨#[]⟩) := k2.out.cell 0; have c1 : w2.cell? ⟨w.heap.size, 1, none⟩ = some (.string ⟨#[]⟩) := k2.out.cell 1; have c2 : w2.cell? ⟨w.heap.size, 2, none⟩ = some (.int .i64 0) := k2.out.cell 2; have c3 : w2.cell? ⟨w.heap.size, 3, none⟩ = some (.int .i64 0) := k2.out.cell 3; have c4 : w2.cell? ⟨w.heap.size, 4, none⟩ = some (.string ⟨#[]⟩) := k2.out.cell 4; have c5 : w2.cell? ⟨w.heap.size, 5, none⟩ = some (.slice none 0 0) := k2.out.cell 5; have f0 : w2.frozen? ⟨w.heap.size, 0, none⟩ = false := k2.out.froz 0; have f1 : w2.frozen? ⟨w.heap.size, 1, none⟩ = false := k2.out.froz 1; have f2 : w2.frozen? ⟨w.heap.size, 2, none⟩ = false := k2.out.froz 2; have f3 : w2.frozen? ⟨w.heap.size, 3, none⟩ = false := k2.out.froz 3; have f4 : w2.frozen? ⟨w.heap.size, 4, none⟩ = false := k2.out.froz 4; have f5 : w2.frozen? ⟨w.heap.size, 5, none⟩ = false := k2.out.froz 5)
    | (go_at_call 243; refine (minor8_at hS.out HK.out _).mono ?_; rintro r' w' ⟨rfl, rfl⟩)
    | (go_at_call 115; refine (value13_at hS.out hR.out HV.out _).mono ?_; rintro r' w3 ⟨rfl, b3⟩; have k3 := Lib.hid (k2.out.call b3); have u3 := Lib.hid (u2.out.trans (b3.mono (by have := k2.out.lt; omega))); clear b3; clear c0 c1 c2 c3 c4 c5 f0 f1 f2 f3 f4 f5; have c0 : w3.cell? ⟨w.heap.size, 0, none⟩ = some (.string ⟨#[]⟩) := k3.out.cell 0; have c1 : w3.cell? ⟨w.heap.size, 1, none⟩ = some (.string ⟨#[]⟩) := k3.out.cell 1; have c2 : w3.cell? ⟨w.heap.size, 2, none⟩ = some (.int .i64 0) := k3.out.cell 2; have c3 : w3.cell? ⟨w.heap.size, 3, none⟩ = some (.int .i64 0) := k3.out.cell 3; have c4 : w3.cell? ⟨w.heap.size, 4, none⟩ = some (.string ⟨#[]⟩) := k3.out.cell 4; have c5 : w3.cell? ⟨w.heap.size, 5, none⟩ = some (.slice none 0 0) := k3.out.cell 5; have f0 : w3.frozen? ⟨w.heap.size, 0, none⟩ = false := k3.out.froz 0; have f1 : w3.frozen? ⟨w.heap.size, 1, none⟩ = false := k3.out.froz 1; have f2 : w3.frozen? ⟨w.heap.size, 2, none⟩ = false := k3.out.froz 2; have f3 : w3.frozen? ⟨w.heap.size, 3, none⟩ = false := k3.out.froz 3; have f4 : w3.frozen? ⟨w.heap.size, 4, none⟩ = false := k3.out.froz 4; have f5 : w3.frozen? ⟨w.heap.size, 5, none⟩ = false := k3.out.froz 5))
  have q := headW_blk k3.out k n (s.extract 13 s.size)
  have u := headW_below u3.out k n (s.extract 13 s.size)
  obtain ⟨Wf, hWf⟩ : ∃ Wf, Wf = headW w3 w.heap.size k n (s.extract 13 s.size) := ⟨_, rfl⟩
  have q : Blk Wf w.heap.size #[.string ⟨#[]⟩, .string ⟨#[]⟩, .int .i64 k, .int .i64 n, .string (s.extract 13 s.size), .slice none 0 0] 24 := by rw [hWf]; exact q
  have u : Below w.heap.size w Wf := by rw [hWf]; exact u
  have hWf' : (((((w3.setCell ⟨w.heap.size, 0, none⟩ (.string ⟨#[]⟩)).setCell ⟨w.heap.size, 1, none⟩ (.string ⟨#[]⟩)).setCell ⟨w.heap.size, 2, none⟩ (.int .i64 k)).setCell ⟨w.heap.size, 3, none⟩ (.int .i64 n)).setCell ⟨w.heap.size, 4, none⟩ (.string (s.extract 13 s.size))).setCell ⟨w.heap.size, 5, none⟩ (.slice none 0 0) = Wf := hWf.symm
  rw [hWf']
  have q0 := q.cell 0
  have q1 := q.cell 1
  have q2 := q.cell 2
  have q3 := q.cell 3
  have q4 := q.cell 4
  have q5 := q.cell 5
  simp only [List.getElem?_toArray, List.getElem?_cons_zero, List.getElem?_cons_succ] at q0 q1 q2 q3 q4 q5
  rw [hR.out] at q4
  exact bodyPost_ret (v := .tuple #[.agg #[.string ⟨#[]⟩, .string ⟨#[]⟩, .int .i64 k, .int .i64 n, .string (rest13 s), .slice none 0 0], .int .i64 0]) (by simp [results, Tryz.results212, go_sem, q0, q1, q2, q3, q4, q5]) rfl ⟨rfl, u⟩
end Go.Proofs.YtmoofcmmpemdcaaGreatDoor


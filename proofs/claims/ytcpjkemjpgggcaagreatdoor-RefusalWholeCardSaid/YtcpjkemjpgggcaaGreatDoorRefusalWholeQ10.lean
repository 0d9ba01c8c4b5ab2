/- Texts packed for one claim, 10 of 45: PrintP Dates. -/
import Derived.Test.YtcpjkemjpgggcaaGreatDoorRefusalWholeQ8
import Derived.Test.YtcpjkemjpgggcaaGreatDoorRefusalWholeQ9
import Derived.Lib.OthersKept
import Derived.Test.YtcpjkemjpgggcaaGreatDoorRefusalWholeQ2
set_option linter.unusedSimpArgs false
set_option linter.unusedVariables false
-- PrintP
namespace Go.Proofs.YtcpjkemjpgggcaaGreatDoor
open Go.RowKit Civ
def pat : ByteArray := ⟨#[119, 44, 32, 100, 32, 109, 32, 121, 32, 116, 32, 122]⟩
/-- The loop under way: the text's iterator at k, the date's block, what lay before. -/
structure PrS (w : World) (DB IT : Nat) (C : Array Value) (k : Nat) (v : World) : Prop where
  it : v.heap[IT]? = some (.stringIter pat k)
  d : Blk v DB C 128
  u : Below w.heap.size w v
  i0 : w.heap.size ≤ IT
theorem PrS.lt {w v : World} {DB IT k : Nat} {C : Array Value} (h : PrS w DB IT C k v) : IT < v.heap.size := (Array.getElem?_eq_some_iff.1 h.it).1
theorem PrS.call {w v v' : World} {DB IT k : Nat} {C : Array Value} (h : PrS w DB IT C k v) (b : Below v.heap.size v v') : PrS w DB IT C k v' := ⟨(b.block IT h.lt).trans h.it, h.d.call b, h.u.trans (b.mono h.u.size), h.i0⟩
theorem PrS.ne {w v : World} {DB IT k : Nat} {C : Array Value} (h : PrS w DB IT C k v) : DB ≠ IT := by
  rintro rfl
  have h1 := h.it
  have h2 := h.d
  unfold Blk at h2
  rw [h1] at h2
  cases h2
theorem PrS.next {w v : World} {DB IT k : Nat} {C : Array Value} (h : PrS w DB IT C k v) (k' : Nat) : PrS w DB IT C k' (v.iterAt IT pat k') :=
  ⟨Lib.iterAt_heap v IT pat k k' h.it, (Lib.iterAt_other v IT DB pat k' h.ne).trans h.d, Lib.below_iterAt h.u h.i0 pat k', h.i0⟩
theorem PrS.drew {w v : World} {DB IT k : Nat} {C : Array Value} (h : PrS w DB IT C k v) : PrS w DB IT C k v.drew := ⟨h.it, h.d, h.u.drew, h.i0⟩
theorem pat_at (k : Nat) (h : k < pat.size) : (pat[k]'h).toNat < 128 := by
  have : k < 12 := h
  obtain rfl | rfl | rfl | rfl | rfl | rfl | rfl | rfl | rfl | rfl | rfl | rfl : k = 0 ∨ k = 1 ∨ k = 2 ∨ k = 3 ∨ k = 4 ∨ k = 5 ∨ k = 6 ∨ k = 7 ∨ k = 8 ∨ k = 9 ∨ k = 10 ∨ k = 11 := by omega
  all_goals (revert h; decide)
set_option maxRecDepth 100000 in
set_option maxHeartbeats 4000000 in
theorem print_any {n y m d : Int} (s r : Int) (k j : Nat) (hd : IsDate n y m d) (hr : 0 ≤ r) (hr2 : r < 86400) (hk : weekD n = k) (hj : m = (j : Int) + 1) (hx : ∀ W : World, Calls Tryz.prog 101 #[.int .i64 s] W fun e w' => e = .returned (.tuple #[dateV y m d r, .bool true]) ∧ Below W.heap.size W w') (w : World) : Calls Tryz.prog 65 #[.int .i64 s] w fun e w' => e = .returned (.string (dateB k j y d r)) ∧ Below w.heap.size w w' := by
  have hy1 := hd.y1
  have hy2 := hd.y2
  have hm1 := hd.m1
  have hm2 := hd.m2
  have hd1 := hd.d1
  have hd31 : d ≤ 31 := by have := (longM_range y m hd.m1 hd.m2).2; have := hd.d2; omega
  have hk6 : k ≤ 6 := by unfold weekD at hk; omega
  have hj11 : j ≤ 11 := by omega
  obtain ⟨zd1, zd2⟩ := dayB_size hk6
  have zm := monB_size hj11
  have hixd : ∀ W : World, (Instr.index 134 (.agg #[.string ⟨#[83, 117, 110, 100, 97, 121]⟩, .string ⟨#[77, 111, 110, 100, 97, 121]⟩, .string ⟨#[84, 117, 101, 115, 100, 97, 121]⟩, .string ⟨#[87, 101, 100, 110, 101, 115, 100, 97, 121]⟩, .string ⟨#[84, 104, 117, 114, 115, 100, 97, 121]⟩, .string ⟨#[70, 114, 105, 100, 97, 121]⟩, .string ⟨#[83, 97, 116, 117, 114, 100, 97, 121]⟩]) (.int .i64 (k : Int))).run Tryz.prog W = .ok (.string (dayB k)) W := by
    obtain rfl | rfl | rfl | rfl | rfl | rfl | rfl : k = 0 ∨ k = 1 ∨ k = 2 ∨ k = 3 ∨ k = 4 ∨ k = 5 ∨ k = 6 := by omega
    all_goals exact fun W => by kernel_rfl
  have hixm : ∀ W : World, (Instr.index 137 (.agg #[.string ⟨#[74, 97, 110]⟩, .string ⟨#[70, 101, 98]⟩, .string ⟨#[77, 97, 114]⟩, .string ⟨#[65, 112, 114]⟩, .string ⟨#[77, 97, 121]⟩, .string ⟨#[74, 117, 110]⟩, .string ⟨#[74, 117, 108]⟩, .string ⟨#[65, 117, 103]⟩, .string ⟨#[83, 101, 112]⟩, .string ⟨#[79, 99, 116]⟩, .string ⟨#[78, 111, 118]⟩, .string ⟨#[68, 101, 99]⟩]) (.int .i64 (j : Int))).run Tryz.prog W = .ok (.string (monB j)) W := by
    obtain rfl | rfl | rfl | rfl | rfl | rfl | rfl | rfl | rfl | rfl | rfl | rfl : j = 0 ∨ j = 1 ∨ j = 2 ∨ j = 3 ∨ j = 4 ∨ j = 5 ∨ j = 6 ∨ j = 7 ∨ j = 8 ∨ j = 9 ∨ j = 10 ∨ j = 11 := by omega
    all_goals exact fun W => by kernel_rfl
  have HD := Lib.hid (fun W => date_days hd W)
  have HW : Hid (∀ W, Calls Tryz.prog 105 #[.int .i64 n] W fun e w' => e = .returned (.int .i64 k) ∧ W = w') := by
    show ∀ W, Calls Tryz.prog 105 #[.int .i64 n] W _
    intro W
    obtain ⟨hn1, hn2⟩ := IsDate_range hd
    have := weekday_any n (by omega) (by omega) W
    rw [hk] at this
    exact this
  obtain ⟨h, hh⟩ : ∃ x : Nat, r / 3600 = x := ⟨(r / 3600).toNat, by omega⟩
  obtain ⟨i, hi⟩ : ∃ x : Nat, r / 60 % 60 = x := ⟨(r / 60 % 60).toNat, by omega⟩
  obtain ⟨q, hq⟩ : ∃ x : Nat, r % 60 = x := ⟨(r % 60).toNat, by omega⟩
  have h1 : (h : Int) ≤ 23 := by omega
  have i1 : (i : Int) ≤ 59 := by omega
  have q1 : (q : Int) ≤ 59 := by omega
  obtain ⟨PF, hPF⟩ : ∃ P : Int → Int → ByteArray, P = fun x v => padB x v := ⟨_, rfl⟩
  have zp : (PF d 2).size ≤ 90 := by rw [hPF]; exact pad_size _ _ (by omega) (by omega)
  have zy : (PF y 4).size ≤ 90 := by rw [hPF]; exact pad_size _ _ (by omega) (by omega)
  have zh : (PF h 2).size ≤ 90 := by rw [hPF]; exact pad_size _ _ (by omega) (by omega)
  have zi : (PF i 2).size ≤ 90 := by rw [hPF]; exact pad_size _ _ (by omega) (by omega)
  have zq : (PF q 2).size ≤ 90 := by rw [hPF]; exact pad_size _ _ (by omega) (by omega)
  have HP : Hid (∀ (x v : Int) (h : -9223372036854775808 ≤ x) (h' : x ≤ 9223372036854775807) (h0 : 0 ≤ v) (h2 : v ≤ 9223372036854775807) (W : World), Calls Tryz.prog 106 #[.int .i64 x, .int .i64 v] W fun e w' => e = .returned (.string (PF x v)) ∧ Below W.heap.size W w') := fun x v h h' h0 h2 W => (pad_any x v h h' h0 h2 W).mono fun e w' ⟨a, b⟩ => ⟨by rw [a, hPF], b⟩
  have hV : dateB k j y d r = ((((((((((dayB k).extract 0 3 ++ ⟨#[44, 32]⟩) ++ PF d 2) ++ ⟨#[32]⟩) ++ monB j) ++ ⟨#[32]⟩) ++ PF y 4) ++ ⟨#[32]⟩) ++ (PF h 2 ++ ⟨#[58]⟩ ++ PF i 2 ++ ⟨#[58]⟩ ++ PF q 2)) ++ ⟨#[32, 71, 77, 84]⟩) := by
    show dateB k j y d r = _
    unfold dateB clockB
    rw [hh, hi, hq, hPF]
  generalize dayB k = DK at hixd zd1 zd2 hV
  generalize monB j = M at hixm zm hV
  obtain ⟨A, hA⟩ : ∃ X : ByteArray, X = DK.extract 0 3 := ⟨_, rfl⟩
  have zA : A.size ≤ 9 := by rw [hA, ByteArray.size_extract]; omega
  have zl0 : (⟨#[]⟩ : ByteArray).size = 0 := rfl
  have zl1 : (⟨#[44]⟩ : ByteArray).size = 1 := rfl
  have zl2 : (⟨#[32]⟩ : ByteArray).size = 1 := rfl
  have zl3 : (⟨#[58]⟩ : ByteArray).size = 1 := rfl
  have zl4 : (⟨#[71, 77, 84]⟩ : ByteArray).size = 3 := rfl
  obtain ⟨T1, hT1⟩ : ∃ X : ByteArray, X = PF h 2 ++ ⟨#[58]⟩ := ⟨_, rfl⟩
  have zT1 : T1.size = (PF h 2).size + (⟨#[58]⟩ : ByteArray).size := by rw [hT1, ByteArray.size_append]
  obtain ⟨T2, hT2⟩ : ∃ X : ByteArray, X = T1 ++ PF i 2 := ⟨_, rfl⟩
  have zT2 : T2.size = T1.size + (PF i 2).size := by rw [hT2, ByteArray.size_append]
  obtain ⟨T3, hT3⟩ : ∃ X : ByteArray, X = T2 ++ ⟨#[58]⟩ := ⟨_, rfl⟩
  have zT3 : T3.size = T2.size + (⟨#[58]⟩ : ByteArray).size := by rw [hT3, ByteArray.size_append]
  obtain ⟨CL, hCL⟩ : ∃ X : ByteArray, X = T3 ++ PF q 2 := ⟨_, rfl⟩
  have zCL : CL.size = T3.size + (PF q 2).size := by rw [hCL, ByteArray.size_append]
  have hadc1 : ∀ W : World, (Op.stringOp .add (PF h 2) (⟨#[58]⟩)).run Tryz.prog W = .ok (.string T1) W := fun W => (run_string_add_sum (P := Tryz.prog) (w := W) (PF h 2) (⟨#[58]⟩) (by omega)).trans (by rw [← hT1])
  have hadc2 : ∀ W : World, (Op.stringOp .add T1 (PF i 2)).run Tryz.prog W = .ok (.string T2) W := fun W => (run_string_add_sum (P := Tryz.prog) (w := W) T1 (PF i 2) (by omega)).trans (by rw [← hT2])
  have hadc3 : ∀ W : World, (Op.stringOp .add T2 (⟨#[58]⟩)).run Tryz.prog W = .ok (.string T3) W := fun W => (run_string_add_sum (P := Tryz.prog) (w := W) T2 (⟨#[58]⟩) (by omega)).trans (by rw [← hT3])
  have hadc4 : ∀ W : World, (Op.stringOp .add T3 (PF q 2)).run Tryz.prog W = .ok (.string CL) W := fun W => (run_string_add_sum (P := Tryz.prog) (w := W) T3 (PF q 2) (by omega)).trans (by rw [← hCL])
  obtain ⟨B1, hB1⟩ : ∃ X : ByteArray, X = (⟨#[]⟩ : ByteArray) ++ (A) := ⟨_, rfl⟩
  have zB1 : B1.size = (⟨#[]⟩ : ByteArray).size + (A : ByteArray).size := by rw [hB1, ByteArray.size_append]
  obtain ⟨B2, hB2⟩ : ∃ X : ByteArray, X = (B1 : ByteArray) ++ (⟨#[44]⟩) := ⟨_, rfl⟩
  have zB2 : B2.size = (B1 : ByteArray).size + (⟨#[44]⟩ : ByteArray).size := by rw [hB2, ByteArray.size_append]
  obtain ⟨B3, hB3⟩ : ∃ X : ByteArray, X = (B2 : ByteArray) ++ (⟨#[32]⟩) := ⟨_, rfl⟩
  have zB3 : B3.size = (B2 : ByteArray).size + (⟨#[32]⟩ : ByteArray).size := by rw [hB3, ByteArray.size_append]
  obtain ⟨B4, hB4⟩ : ∃ X : ByteArray, X = (B3 : ByteArray) ++ (PF d 2) := ⟨_, rfl⟩
  have zB4 : B4.size = (B3 : ByteArray).size + (PF d 2 : ByteArray).size := by rw [hB4, ByteArray.size_append]
  obtain ⟨B5, hB5⟩ : ∃ X : ByteArray, X = (B4 : ByteArray) ++ (⟨#[32]⟩) := ⟨_, rfl⟩
  have zB5 : B5.size = (B4 : ByteArray).size + (⟨#[32]⟩ : ByteArray).size := by rw [hB5, ByteArray.size_append]
  obtain ⟨B6, hB6⟩ : ∃ X : ByteArray, X = (B5 : ByteArray) ++ (M) := ⟨_, rfl⟩
  have zB6 : B6.size = (B5 : ByteArray).size + (M : ByteArray).size := by rw [hB6, ByteArray.size_append]
  obtain ⟨B7, hB7⟩ : ∃ X : ByteArray, X = (B6 : ByteArray) ++ (⟨#[32]⟩) := ⟨_, rfl⟩
  have zB7 : B7.size = (B6 : ByteArray).size + (⟨#[32]⟩ : ByteArray).size := by rw [hB7, ByteArray.size_append]
  obtain ⟨B8, hB8⟩ : ∃ X : ByteArray, X = (B7 : ByteArray) ++ (PF y 4) := ⟨_, rfl⟩
  have zB8 : B8.size = (B7 : ByteArray).size + (PF y 4 : ByteArray).size := by rw [hB8, ByteArray.size_append]
  obtain ⟨B9, hB9⟩ : ∃ X : ByteArray, X = (B8 : ByteArray) ++ (⟨#[32]⟩) := ⟨_, rfl⟩
  have zB9 : B9.size = (B8 : ByteArray).size + (⟨#[32]⟩ : ByteArray).size := by rw [hB9, ByteArray.size_append]
  obtain ⟨B10, hB10⟩ : ∃ X : ByteArray, X = (B9 : ByteArray) ++ (CL) := ⟨_, rfl⟩
  have zB10 : B10.size = (B9 : ByteArray).size + (CL : ByteArray).size := by rw [hB10, ByteArray.size_append]
  obtain ⟨B11, hB11⟩ : ∃ X : ByteArray, X = (B10 : ByteArray) ++ (⟨#[32]⟩) := ⟨_, rfl⟩
  have zB11 : B11.size = (B10 : ByteArray).size + (⟨#[32]⟩ : ByteArray).size := by rw [hB11, ByteArray.size_append]
  obtain ⟨B12, hB12⟩ : ∃ X : ByteArray, X = (B11 : ByteArray) ++ (⟨#[71, 77, 84]⟩) := ⟨_, rfl⟩
  have zB12 : B12.size = (B11 : ByteArray).size + (⟨#[71, 77, 84]⟩ : ByteArray).size := by rw [hB12, ByteArray.size_append]
  have hadd0 : ∀ W : World, (Op.stringOp .add (⟨#[]⟩) (A)).run Tryz.prog W = .ok (.string B1) W := fun W => (run_string_add_sum (P := Tryz.prog) (w := W) (⟨#[]⟩) (A) (by omega)).trans (by rw [← hB1])
  have hadd1 : ∀ W : World, (Op.stringOp .add (B1) (⟨#[44]⟩)).run Tryz.prog W = .ok (.string B2) W := fun W => (run_string_add_sum (P := Tryz.prog) (w := W) (B1) (⟨#[44]⟩) (by omega)).trans (by rw [← hB2])
  have hadd2 : ∀ W : World, (Op.stringOp .add (B2) (⟨#[32]⟩)).run Tryz.prog W = .ok (.string B3) W := fun W => (run_string_add_sum (P := Tryz.prog) (w := W) (B2) (⟨#[32]⟩) (by omega)).trans (by rw [← hB3])
  have hadd3 : ∀ W : World, (Op.stringOp .add (B3) (PF d 2)).run Tryz.prog W = .ok (.string B4) W := fun W => (run_string_add_sum (P := Tryz.prog) (w := W) (B3) (PF d 2) (by omega)).trans (by rw [← hB4])
  have hadd4 : ∀ W : World, (Op.stringOp .add (B4) (⟨#[32]⟩)).run Tryz.prog W = .ok (.string B5) W := fun W => (run_string_add_sum (P := Tryz.prog) (w := W) (B4) (⟨#[32]⟩) (by omega)).trans (by rw [← hB5])
  have hadd5 : ∀ W : World, (Op.stringOp .add (B5) (M)).run Tryz.prog W = .ok (.string B6) W := fun W => (run_string_add_sum (P := Tryz.prog) (w := W) (B5) (M) (by omega)).trans (by rw [← hB6])
  have hadd6 : ∀ W : World, (Op.stringOp .add (B6) (⟨#[32]⟩)).run Tryz.prog W = .ok (.string B7) W := fun W => (run_string_add_sum (P := Tryz.prog) (w := W) (B6) (⟨#[32]⟩) (by omega)).trans (by rw [← hB7])
  have hadd7 : ∀ W : World, (Op.stringOp .add (B7) (PF y 4)).run Tryz.prog W = .ok (.string B8) W := fun W => (run_string_add_sum (P := Tryz.prog) (w := W) (B7) (PF y 4) (by omega)).trans (by rw [← hB8])
  have hadd8 : ∀ W : World, (Op.stringOp .add (B8) (⟨#[32]⟩)).run Tryz.prog W = .ok (.string B9) W := fun W => (run_string_add_sum (P := Tryz.prog) (w := W) (B8) (⟨#[32]⟩) (by omega)).trans (by rw [← hB9])
  have hadd9 : ∀ W : World, (Op.stringOp .add (B9) (CL)).run Tryz.prog W = .ok (.string B10) W := fun W => (run_string_add_sum (P := Tryz.prog) (w := W) (B9) (CL) (by omega)).trans (by rw [← hB10])
  have hadd10 : ∀ W : World, (Op.stringOp .add (B10) (⟨#[32]⟩)).run Tryz.prog W = .ok (.string B11) W := fun W => (run_string_add_sum (P := Tryz.prog) (w := W) (B10) (⟨#[32]⟩) (by omega)).trans (by rw [← hB11])
  have hadd11 : ∀ W : World, (Op.stringOp .add (B11) (⟨#[71, 77, 84]⟩)).run Tryz.prog W = .ok (.string B12) W := fun W => (run_string_add_sum (P := Tryz.prog) (w := W) (B11) (⟨#[71, 77, 84]⟩) (by omega)).trans (by rw [← hB12])
  have hsl : ∀ W : World, (Instr.slice 9 (.string DK) none (some (.int .i64 3)) none).run Tryz.prog W = .ok (.string A) W := fun W => by
    go_simp
    intro hlt
    omega
  have HV : Hid (dateB k j y d r = B12) := by
    show dateB k j y d r = B12
    have e1 : (⟨#[44, 32]⟩ : ByteArray) = ⟨#[44]⟩ ++ ⟨#[32]⟩ := by decide
    have e2 : (⟨#[32, 71, 77, 84]⟩ : ByteArray) = ⟨#[32]⟩ ++ ⟨#[71, 77, 84]⟩ := by decide
    have e3 : ∀ X : ByteArray, (⟨#[]⟩ : ByteArray) ++ X = X := fun X => by apply ByteArray.ext; simp
    rw [hV, hB12, hB11, hB10, hB9, hB8, hB7, hB6, hB5, hB4, hB3, hB2, hB1, hCL, hT3, hT2, hT1, hA, e1, e2, e3]
    simp only [ByteArray.append_assoc]
  unfold dateV at hx
  rw [hh, hi, hq, hj] at hx
  obtain ⟨C, hC⟩ : ∃ C : Array Value, C = #[.int .i64 y, .int .i64 ((j : Int) + 1), .int .i64 d, .int .i64 (h : Int), .int .i64 (i : Int), .int .i64 (q : Int)] := ⟨_, rfl⟩
  rw [hj] at HD
  have HX := Lib.hid hx
  have HC := Lib.hid hC
  have hwj : IntKind.i64.wrap (j : Int) = j := IntWalk.i64_in _ (by omega)
  have hj0 : (0 : Int) ≤ (j : Int) := by omega
  have hj12 : (j : Int) ≤ 11 := by omega
  have hix : ∀ W : World, (Instr.index 132 (.agg #[.string ⟨#[119, 44, 32, 100, 32, 109, 32, 121, 32, 116, 32, 122]⟩, .string ⟨#[87, 44, 32, 100, 45, 109, 45, 107, 32, 116, 32, 122]⟩, .string ⟨#[119, 32, 109, 32, 98, 32, 116, 32, 121]⟩]) (.int .i64 0)).run Tryz.prog W = .ok (.string pat) W := fun W => by kernel_rfl
  clear hx hd hr hr2 hC hh hi hq hk hj hV hPF hA hT1 hT2 hT3 hCL zT1 zT2 zT3 zCL hB1 zB1 hB2 zB2 hB3 zB3 hB4 zB4 hB5 zB5 hB6 zB6 hB7 zB7 hB8 zB8 hB9 zB9 hB10 zB10 hB11 zB11 hB12 zB12 zA zl0 zl1 zl2 zl3 zl4 zd1 zd2 zm zp zy zh zi zq hk6 hj11 hm1 hm2
  go_enter Tryz.func65, Tryz.ntmps65
  go_wp2_with (first | (go_at_call 101; refine (HX.out _).mono ?_; rintro e' w1 ⟨rfl, hb⟩; have HB := Lib.hid hb; clear hb) | (go_at_call 102; refine (HD.out _).mono ?_; rintro e2 w2 ⟨rfl, hb2⟩; have HB2 := Lib.hid hb2; clear hb2) | (go_at_call 103; refine (hpatterns_any _).mono ?_; rintro e3 w3 ⟨rfl, hb3⟩; have HB3 := Lib.hid hb3; clear hb3))
  have hs0 : PrS w w1.heap.size w3.heap.size C 0 (w3.iter pat 0) := by
    have b1 := HB.out
    have b2 := HB2.out
    have b3 := HB3.out
    have s1 : (w1.alloc (.cells #[.int .i64 y, .int .i64 ((j : Int) + 1), .int .i64 d, .int .i64 (h : Int), .int .i64 (i : Int), .int .i64 (q : Int)] 128)).heap.size = w1.heap.size + 1 := by simp
    have z1 := b1.size
    have z2 := b2.size
    have z3 := b3.size
    refine ⟨World.iter_heap _ _ _, ?_, ?_, by omega⟩
    · rw [HC.out]; exact ((((Blk.new w1 _ _).call b2).call b3)).alloc _
    · exact ((((b1.alloc b1.size _).trans (b2.mono (by omega))).trans (b3.mono (by omega)))).alloc (by omega) _
  have HS0 := Lib.hid hs0
  have HCl : Hid (∀ (v : World) (k : Nat), PrS w w1.heap.size w3.heap.size C k v → v.cell? ⟨w1.heap.size, 0, none⟩ = some (.int .i64 y) ∧ v.cell? ⟨w1.heap.size, 1, none⟩ = some (.int .i64 ((j : Int) + 1)) ∧ v.cell? ⟨w1.heap.size, 2, none⟩ = some (.int .i64 d) ∧ v.cell? ⟨w1.heap.size, 3, none⟩ = some (.int .i64 (h : Int)) ∧ v.cell? ⟨w1.heap.size, 4, none⟩ = some (.int .i64 (i : Int)) ∧ v.cell? ⟨w1.heap.size, 5, none⟩ = some (.int .i64 (q : Int))) := by
    show ∀ (v : World) (k : Nat), _ → _
    intro v k hv
    have e := HC.out
    exact ⟨(hv.d.cell 0).trans (by rw [e]; rfl), (hv.d.cell 1).trans (by rw [e]; rfl), (hv.d.cell 2).trans (by rw [e]; rfl), (hv.d.cell 3).trans (by rw [e]; rfl), (hv.d.cell 4).trans (by rw [e]; rfl), (hv.d.cell 5).trans (by rw [e]; rfl)⟩
  clear HB HB2 HB3 hs0 hix HD HX
  have hcv1 : ∀ W : World, (convert 21 9 (.int .i32 44)).run Tryz.prog W = .ok (.string ⟨#[44]⟩) W := fun W => by kernel_rfl
  have hcv2 : ∀ W : World, (convert 21 9 (.int .i32 32)).run Tryz.prog W = .ok (.string ⟨#[32]⟩) W := fun W => by kernel_rfl
  go_loopw [7] (fun v wr => ∃ x : Nat, x ≤ 12 ∧ v = .string ((#[⟨#[]⟩, B1, B2, B3, B4, B5, B6, B7, B8, B9, B10, B11, B12] : Array ByteArray).getD x ⟨#[]⟩) ∧ PrS w w1.heap.size w3.heap.size C x wr) (fun _ wr => 12 - wr.iterPos w3.heap.size)
  case atStart => exact ⟨0, by omega, rfl, HS0.out⟩
  case round =>
    obtain ⟨x, hx12, hv, hs⟩ := hrel
    obtain rfl | rfl | rfl | rfl | rfl | rfl | rfl | rfl | rfl | rfl | rfl | rfl | rfl : x = 0 ∨ x = 1 ∨ x = 2 ∨ x = 3 ∨ x = 4 ∨ x = 5 ∨ x = 6 ∨ x = 7 ∨ x = 8 ∨ x = 9 ∨ x = 10 ∨ x = 11 ∨ x = 12 := by omega
    · obtain rfl : _ = Value.string (⟨#[]⟩) := hv
      clear hx12
      have HR := Lib.hid hs
      obtain ⟨wn, hwn⟩ : ∃ x, x = wr.iterAt w3.heap.size pat 1 := ⟨_, rfl⟩
      have hs1 : PrS w w1.heap.size w3.heap.size C 1 wn := by rw [hwn]; exact hs.next _
      have hnx : ∀ ty, (Instr.next (.pointer (some ⟨w3.heap.size, 0, none⟩)) true ty).run Tryz.prog wr = .ok (.tuple #[.bool true, .int .i64 0, .int .i32 119]) wn := fun ty => by rw [hwn]; exact Lib.run_next_ascii_at wr w3.heap.size pat 0 ty hs.it (by decide) (by decide)
      have HS1 := Lib.hid hs1
      obtain ⟨q0, -, q2, -, -, -⟩ := HCl.out _ _ hs1
      clear hwn hs hs1
      clear q0 q2
      go_wp2_with (first | (go_at_call 104; refine (hdays_any _).mono ?_; rintro e4 w4 ⟨rfl, hb4⟩; have HB4 := Lib.hid hb4; clear hb4) | (go_at_call 105; refine (HW.out _).mono ?_; rintro e5 w5 ⟨rfl, rfl⟩))
      go_roundw
      case rel => exact ⟨1, by omega, rfl, HS1.out.call HB4.out⟩
      case measure => simp only [World.iterPos, PrS.it (HS1.out.call HB4.out), HR.out.it]; omega
    · obtain rfl : _ = Value.string (B1) := hv
      clear hx12
      have HR := Lib.hid hs
      obtain ⟨wn, hwn⟩ : ∃ x, x = wr.iterAt w3.heap.size pat 2 := ⟨_, rfl⟩
      have hs1 : PrS w w1.heap.size w3.heap.size C 2 wn := by rw [hwn]; exact hs.next _
      have hnx : ∀ ty, (Instr.next (.pointer (some ⟨w3.heap.size, 0, none⟩)) true ty).run Tryz.prog wr = .ok (.tuple #[.bool true, .int .i64 1, .int .i32 44]) wn := fun ty => by rw [hwn]; exact Lib.run_next_ascii_at wr w3.heap.size pat 1 ty hs.it (by decide) (by decide)
      have HS1 := Lib.hid hs1
      obtain ⟨q0, -, q2, -, -, -⟩ := HCl.out _ _ hs1
      clear hwn hs hs1
      go_wp2_with fail
      go_roundw
      case rel => exact ⟨2, by omega, rfl, HS1.out⟩
      case measure => simp only [World.iterPos, PrS.it (HS1.out), HR.out.it]; omega
    · obtain rfl : _ = Value.string (B2) := hv
      clear hx12
      have HR := Lib.hid hs
      obtain ⟨wn, hwn⟩ : ∃ x, x = wr.iterAt w3.heap.size pat 3 := ⟨_, rfl⟩
      have hs1 : PrS w w1.heap.size w3.heap.size C 3 wn := by rw [hwn]; exact hs.next _
      have hnx : ∀ ty, (Instr.next (.pointer (some ⟨w3.heap.size, 0, none⟩)) true ty).run Tryz.prog wr = .ok (.tuple #[.bool true, .int .i64 2, .int .i32 32]) wn := fun ty => by rw [hwn]; exact Lib.run_next_ascii_at wr w3.heap.size pat 2 ty hs.it (by decide) (by decide)
      have HS1 := Lib.hid hs1
      obtain ⟨q0, -, q2, -, -, -⟩ := HCl.out _ _ hs1
      clear hwn hs hs1
      go_wp2_with fail
      go_roundw
      case rel => exact ⟨3, by omega, rfl, HS1.out⟩
      case measure => simp only [World.iterPos, PrS.it (HS1.out), HR.out.it]; omega
    · obtain rfl : _ = Value.string (B3) := hv
      clear hx12
      have HR := Lib.hid hs
      obtain ⟨wn, hwn⟩ : ∃ x, x = wr.iterAt w3.heap.size pat 4 := ⟨_, rfl⟩
      have hs1 : PrS w w1.heap.size w3.heap.size C 4 wn := by rw [hwn]; exact hs.next _
      have hnx : ∀ ty, (Instr.next (.pointer (some ⟨w3.heap.size, 0, none⟩)) true ty).run Tryz.prog wr = .ok (.tuple #[.bool true, .int .i64 3, .int .i32 100]) wn := fun ty => by rw [hwn]; exact Lib.run_next_ascii_at wr w3.heap.size pat 3 ty hs.it (by decide) (by decide)
      have HS1 := Lib.hid hs1
      obtain ⟨q0, -, q2, -, -, -⟩ := HCl.out _ _ hs1
      clear hwn hs hs1
      go_wp2_with (go_at_call 106; refine (HP.out _ _ (by omega) (by omega) (by omega) (by omega) _).mono ?_; rintro e4 w4 ⟨rfl, hb4⟩; have HB4 := Lib.hid hb4; clear hb4)
      go_roundw
      case rel => exact ⟨4, by omega, rfl, HS1.out.call HB4.out⟩
      case measure => simp only [World.iterPos, PrS.it (HS1.out.call HB4.out), HR.out.it]; omega
    · obtain rfl : _ = Value.string (B4) := hv
      clear hx12
      have HR := Lib.hid hs
      obtain ⟨wn, hwn⟩ : ∃ x, x = wr.iterAt w3.heap.size pat 5 := ⟨_, rfl⟩
      have hs1 : PrS w w1.heap.size w3.heap.size C 5 wn := by rw [hwn]; exact hs.next _
      have hnx : ∀ ty, (Instr.next (.pointer (some ⟨w3.heap.size, 0, none⟩)) true ty).run Tryz.prog wr = .ok (.tuple #[.bool true, .int .i64 4, .int .i32 32]) wn := fun ty => by rw [hwn]; exact Lib.run_next_ascii_at wr w3.heap.size pat 4 ty hs.it (by decide) (by decide)
      have HS1 := Lib.hid hs1
      obtain ⟨q0, -, q2, -, -, -⟩ := HCl.out _ _ hs1
      clear hwn hs hs1
      go_wp2_with fail
      go_roundw
      case rel => exact ⟨5, by omega, rfl, HS1.out⟩
      case measure => simp only [World.iterPos, PrS.it (HS1.out), HR.out.it]; omega
    · obtain rfl : _ = Value.string (B5) := hv
      clear hx12
      have HR := Lib.hid hs
      obtain ⟨wn, hwn⟩ : ∃ x, x = wr.iterAt w3.heap.size pat 6 := ⟨_, rfl⟩
      have hs1 : PrS w w1.heap.size w3.heap.size C 6 wn := by rw [hwn]; exact hs.next _
      have hnx : ∀ ty, (Instr.next (.pointer (some ⟨w3.heap.size, 0, none⟩)) true ty).run Tryz.prog wr = .ok (.tuple #[.bool true, .int .i64 5, .int .i32 109]) wn := fun ty => by rw [hwn]; exact Lib.run_next_ascii_at wr w3.heap.size pat 5 ty hs.it (by decide) (by decide)
      have HS1 := Lib.hid hs1
      have HSd : Hid (PrS w w1.heap.size w3.heap.size C 6 wn.drew) := hs1.drew
      have NI : Nonempty (Cl (PrS w w1.heap.size w3.heap.size C 6)) := ⟨⟨_, hs1⟩⟩
      have p1 : ∀ s' : Cl (PrS w w1.heap.size w3.heap.size C 6), s'.val.cell? ⟨w1.heap.size, 1, none⟩ = some (.int .i64 ((j : Int) + 1)) := fun s' => (HCl.out _ _ s'.ok).2.1
      clear hwn hs hs1
      go_wp2_with fail
      refine wp_region_cl HSd.out (by kernel_rfl) (by kernel_rfl) ?_
      repeat go_big_quiet_step ((go_at_call 107; exact Calls.cl_of ((hmonths_any _).mono fun _ _ ⟨a, b⟩ => ⟨a, PrS.call (Cl.ok _) b⟩)))
      refine wpQuiet_nil ?_
      rintro _ ⟨s', rfl⟩
      go_wp2_with fail
      go_roundw
      case rel => exact ⟨6, by omega, rfl, s'.ok⟩
      case measure => simp only [World.iterPos, PrS.it (s'.ok), HR.out.it]; omega
    · obtain rfl : _ = Value.string (B6) := hv
      clear hx12
      have HR := Lib.hid hs
      obtain ⟨wn, hwn⟩ : ∃ x, x = wr.iterAt w3.heap.size pat 7 := ⟨_, rfl⟩
      have hs1 : PrS w w1.heap.size w3.heap.size C 7 wn := by rw [hwn]; exact hs.next _
      have hnx : ∀ ty, (Instr.next (.pointer (some ⟨w3.heap.size, 0, none⟩)) true ty).run Tryz.prog wr = .ok (.tuple #[.bool true, .int .i64 6, .int .i32 32]) wn := fun ty => by rw [hwn]; exact Lib.run_next_ascii_at wr w3.heap.size pat 6 ty hs.it (by decide) (by decide)
      have HS1 := Lib.hid hs1
      obtain ⟨q0, -, q2, -, -, -⟩ := HCl.out _ _ hs1
      clear hwn hs hs1
      go_wp2_with fail
      go_roundw
      case rel => exact ⟨7, by omega, rfl, HS1.out⟩
      case measure => simp only [World.iterPos, PrS.it (HS1.out), HR.out.it]; omega
    · obtain rfl : _ = Value.string (B7) := hv
      clear hx12
      have HR := Lib.hid hs
      obtain ⟨wn, hwn⟩ : ∃ x, x = wr.iterAt w3.heap.size pat 8 := ⟨_, rfl⟩
      have hs1 : PrS w w1.heap.size w3.heap.size C 8 wn := by rw [hwn]; exact hs.next _
      have hnx : ∀ ty, (Instr.next (.pointer (some ⟨w3.heap.size, 0, none⟩)) true ty).run Tryz.prog wr = .ok (.tuple #[.bool true, .int .i64 7, .int .i32 121]) wn := fun ty => by rw [hwn]; exact Lib.run_next_ascii_at wr w3.heap.size pat 7 ty hs.it (by decide) (by decide)
      have HS1 := Lib.hid hs1
      obtain ⟨q0, -, q2, -, -, -⟩ := HCl.out _ _ hs1
      clear hwn hs hs1
      go_wp2_with (go_at_call 106; refine (HP.out _ _ (by omega) (by omega) (by omega) (by omega) _).mono ?_; rintro e4 w4 ⟨rfl, hb4⟩; have HB4 := Lib.hid hb4; clear hb4)
      go_roundw
      case rel => exact ⟨8, by omega, rfl, HS1.out.call HB4.out⟩
      case measure => simp only [World.iterPos, PrS.it (HS1.out.call HB4.out), HR.out.it]; omega
    · obtain rfl : _ = Value.string (B8) := hv
      clear hx12
      have HR := Lib.hid hs
      obtain ⟨wn, hwn⟩ : ∃ x, x = wr.iterAt w3.heap.size pat 9 := ⟨_, rfl⟩
      have hs1 : PrS w w1.heap.size w3.heap.size C 9 wn := by rw [hwn]; exact hs.next _
      have hnx : ∀ ty, (Instr.next (.pointer (some ⟨w3.heap.size, 0, none⟩)) true ty).run Tryz.prog wr = .ok (.tuple #[.bool true, .int .i64 8, .int .i32 32]) wn := fun ty => by rw [hwn]; exact Lib.run_next_ascii_at wr w3.heap.size pat 8 ty hs.it (by decide) (by decide)
      have HS1 := Lib.hid hs1
      obtain ⟨q0, -, q2, -, -, -⟩ := HCl.out _ _ hs1
      clear hwn hs hs1
      go_wp2_with fail
      go_roundw
      case rel => exact ⟨9, by omega, rfl, HS1.out⟩
      case measure => simp only [World.iterPos, PrS.it (HS1.out), HR.out.it]; omega
    · obtain rfl : _ = Value.string (B9) := hv
      clear hx12
      have HR := Lib.hid hs
      obtain ⟨wn, hwn⟩ : ∃ x, x = wr.iterAt w3.heap.size pat 10 := ⟨_, rfl⟩
      have hs1 : PrS w w1.heap.size w3.heap.size C 10 wn := by rw [hwn]; exact hs.next _
      have hnx : ∀ ty, (Instr.next (.pointer (some ⟨w3.heap.size, 0, none⟩)) true ty).run Tryz.prog wr = .ok (.tuple #[.bool true, .int .i64 9, .int .i32 116]) wn := fun ty => by rw [hwn]; exact Lib.run_next_ascii_at wr w3.heap.size pat 9 ty hs.it (by decide) (by decide)
      have HS1 := Lib.hid hs1
      have HSd : Hid (PrS w w1.heap.size w3.heap.size C 10 wn.drew) := hs1.drew
      have NI : Nonempty (Cl (PrS w w1.heap.size w3.heap.size C 10)) := ⟨⟨_, hs1⟩⟩
      have p3 : ∀ s' : Cl (PrS w w1.heap.size w3.heap.size C 10), s'.val.cell? ⟨w1.heap.size, 3, none⟩ = some (.int .i64 (h : Int)) := fun s' => (HCl.out _ _ s'.ok).2.2.2.1
      have p4 : ∀ s' : Cl (PrS w w1.heap.size w3.heap.size C 10), s'.val.cell? ⟨w1.heap.size, 4, none⟩ = some (.int .i64 (i : Int)) := fun s' => (HCl.out _ _ s'.ok).2.2.2.2.1
      have p5 : ∀ s' : Cl (PrS w w1.heap.size w3.heap.size C 10), s'.val.cell? ⟨w1.heap.size, 5, none⟩ = some (.int .i64 (q : Int)) := fun s' => (HCl.out _ _ s'.ok).2.2.2.2.2
      clear hwn hs hs1
      go_wp2_with fail
      refine wp_region_cl HSd.out (by kernel_rfl) (by kernel_rfl) ?_
      repeat go_big_quiet_step ((go_at_call 106; exact Calls.cl_of ((HP.out _ _ (by omega) (by omega) (by omega) (by omega) _).mono fun _ _ ⟨a, b⟩ => ⟨a, PrS.call (Cl.ok _) b⟩)))
      refine wpQuiet_nil ?_
      rintro _ ⟨s', rfl⟩
      go_wp2_with fail
      go_roundw
      case rel => exact ⟨10, by omega, rfl, s'.ok⟩
      case measure => simp only [World.iterPos, PrS.it (s'.ok), HR.out.it]; omega
    · obtain rfl : _ = Value.string (B10) := hv
      clear hx12
      have HR := Lib.hid hs
      obtain ⟨wn, hwn⟩ : ∃ x, x = wr.iterAt w3.heap.size pat 11 := ⟨_, rfl⟩
      have hs1 : PrS w w1.heap.size w3.heap.size C 11 wn := by rw [hwn]; exact hs.next _
      have hnx : ∀ ty, (Instr.next (.pointer (some ⟨w3.heap.size, 0, none⟩)) true ty).run Tryz.prog wr = .ok (.tuple #[.bool true, .int .i64 10, .int .i32 32]) wn := fun ty => by rw [hwn]; exact Lib.run_next_ascii_at wr w3.heap.size pat 10 ty hs.it (by decide) (by decide)
      have HS1 := Lib.hid hs1
      obtain ⟨q0, -, q2, -, -, -⟩ := HCl.out _ _ hs1
      clear hwn hs hs1
      go_wp2_with fail
      go_roundw
      case rel => exact ⟨11, by omega, rfl, HS1.out⟩
      case measure => simp only [World.iterPos, PrS.it (HS1.out), HR.out.it]; omega
    · obtain rfl : _ = Value.string (B11) := hv
      clear hx12
      have HR := Lib.hid hs
      obtain ⟨wn, hwn⟩ : ∃ x, x = wr.iterAt w3.heap.size pat 12 := ⟨_, rfl⟩
      have hs1 : PrS w w1.heap.size w3.heap.size C 12 wn := by rw [hwn]; exact hs.next _
      have hnx : ∀ ty, (Instr.next (.pointer (some ⟨w3.heap.size, 0, none⟩)) true ty).run Tryz.prog wr = .ok (.tuple #[.bool true, .int .i64 11, .int .i32 122]) wn := fun ty => by rw [hwn]; exact Lib.run_next_ascii_at wr w3.heap.size pat 11 ty hs.it (by decide) (by decide)
      have HS1 := Lib.hid hs1
      obtain ⟨q0, -, q2, -, -, -⟩ := HCl.out _ _ hs1
      clear hwn hs hs1
      go_wp2_with fail
      go_roundw
      case rel => exact ⟨12, by omega, rfl, HS1.out⟩
      case measure => simp only [World.iterPos, PrS.it (HS1.out), HR.out.it]; omega
    · obtain rfl : _ = Value.string B12 := hv
      have hnx : ∀ ty, (Instr.next (.pointer (some ⟨w3.heap.size, 0, none⟩)) true ty).run Tryz.prog wr = .ok (.tuple #[.bool false]) wr := fun ty => Lib.run_next_end_at wr w3.heap.size pat 12 ty hs.it (by decide)
      have HS := Lib.hid hs
      clear hs hx12
      go_wp2_with fail
      go_ret
      rw [HV.out]
      exact ⟨rfl, HS.out.u⟩
end Go.Proofs.YtcpjkemjpgggcaaGreatDoor
-- Dates
namespace Go.Proofs.YtcpjkemjpgggcaaGreatDoor
open Go.RowKit Civ
theorem date_of (n : Int) (h1 : -719162 ≤ n) (h2 : n < 2932897) : ∃ y m d, IsDate n y m d := by
  obtain ⟨c, hc⟩ : ∃ c, c = min ((n + 719468) % 146097 / 36524) 3 := ⟨_, rfl⟩
  obtain ⟨f, hf⟩ : ∃ f, f = ((n + 719468) % 146097 - c * 36524) / 1461 := ⟨_, rfl⟩
  obtain ⟨o, ho⟩ : ∃ o, o = min (((n + 719468) % 146097 - c * 36524 - f * 1461) / 365) 3 := ⟨_, rfl⟩
  obtain ⟨r, hr⟩ : ∃ r, r = (n + 719468) % 146097 - c * 36524 - f * 1461 - o * 365 := ⟨_, rfl⟩
  have hP := parts_of h1 h2 rfl hc hf ho hr
  by_cases h10 : (5 * r + 2) / 153 < 10
  · exact ⟨_, _, _, of_early h1 h2 hP rfl rfl h10⟩
  · exact ⟨_, _, _, of_late h1 h2 hP rfl rfl (by omega)⟩
theorem dateB_some (k j : Nat) (y d r : Int) : (dateB k j y d r).toList.isEmpty = false := by
  rw [ByteArray.toList_eq]
  have hz : (dateB k j y d r).size = (dateB k j y d r).data.toList.length := by simp
  have h4 : 4 ≤ (dateB k j y d r).size := by unfold dateB; rw [ByteArray.size_append]; have : (⟨#[32, 71, 77, 84]⟩ : ByteArray).size = 4 := rfl; omega
  cases h : (dateB k j y d r).data.toList with
  | nil => rw [h] at hz; rw [hz] at h4; exact absurd h4 (by decide)
  | cons a l => rfl
end Go.Proofs.YtcpjkemjpgggcaaGreatDoor

/- The reference's httpdate: Write at the first form, Print in range. -/
import Derived.Test.YtkcimbjgjamloaaHeld
import Derived.IntWalk
import Derived.Test.YtkcimbjgjamloaaPrint
namespace Go.Proofs.Ytkcimbjgjamloaa
open Go.RowKit Civ
/-- The weekdays' names. -/
def dayB : Nat → ByteArray
  | 0 => ⟨#[83, 117, 110, 100, 97, 121]⟩
  | 1 => ⟨#[77, 111, 110, 100, 97, 121]⟩
  | 2 => ⟨#[84, 117, 101, 115, 100, 97, 121]⟩
  | 3 => ⟨#[87, 101, 100, 110, 101, 115, 100, 97, 121]⟩
  | 4 => ⟨#[84, 104, 117, 114, 115, 100, 97, 121]⟩
  | 5 => ⟨#[70, 114, 105, 100, 97, 121]⟩
  | _ => ⟨#[83, 97, 116, 117, 114, 100, 97, 121]⟩
/-- The months' names, from 0. -/
def monB : Nat → ByteArray
  | 0 => ⟨#[74, 97, 110]⟩
  | 1 => ⟨#[70, 101, 98]⟩
  | 2 => ⟨#[77, 97, 114]⟩
  | 3 => ⟨#[65, 112, 114]⟩
  | 4 => ⟨#[77, 97, 121]⟩
  | 5 => ⟨#[74, 117, 110]⟩
  | 6 => ⟨#[74, 117, 108]⟩
  | 7 => ⟨#[65, 117, 103]⟩
  | 8 => ⟨#[83, 101, 112]⟩
  | 9 => ⟨#[79, 99, 116]⟩
  | 10 => ⟨#[78, 111, 118]⟩
  | _ => ⟨#[68, 101, 99]⟩
def dayRow : Array Value := #[.string ⟨#[83, 117, 110, 100, 97, 121]⟩, .string ⟨#[77, 111, 110, 100, 97, 121]⟩, .string ⟨#[84, 117, 101, 115, 100, 97, 121]⟩, .string ⟨#[87, 101, 100, 110, 101, 115, 100, 97, 121]⟩, .string ⟨#[84, 104, 117, 114, 115, 100, 97, 121]⟩, .string ⟨#[70, 114, 105, 100, 97, 121]⟩, .string ⟨#[83, 97, 116, 117, 114, 100, 97, 121]⟩]
def monRow : Array Value := #[.string ⟨#[74, 97, 110]⟩, .string ⟨#[70, 101, 98]⟩, .string ⟨#[77, 97, 114]⟩, .string ⟨#[65, 112, 114]⟩, .string ⟨#[77, 97, 121]⟩, .string ⟨#[74, 117, 110]⟩, .string ⟨#[74, 117, 108]⟩, .string ⟨#[65, 117, 103]⟩, .string ⟨#[83, 101, 112]⟩, .string ⟨#[79, 99, 116]⟩, .string ⟨#[78, 111, 118]⟩, .string ⟨#[68, 101, 99]⟩]
theorem dayRow_at {k : Nat} (h : k ≤ 6) : dayRow[k]? = some (.string (dayB k)) := by
  obtain rfl | rfl | rfl | rfl | rfl | rfl | rfl : k = 0 ∨ k = 1 ∨ k = 2 ∨ k = 3 ∨ k = 4 ∨ k = 5 ∨ k = 6 := by omega
  all_goals rfl
theorem monRow_at {k : Nat} (h : k ≤ 11) : monRow[k]? = some (.string (monB k)) := by
  obtain rfl | rfl | rfl | rfl | rfl | rfl | rfl | rfl | rfl | rfl | rfl | rfl : k = 0 ∨ k = 1 ∨ k = 2 ∨ k = 3 ∨ k = 4 ∨ k = 5 ∨ k = 6 ∨ k = 7 ∨ k = 8 ∨ k = 9 ∨ k = 10 ∨ k = 11 := by omega
  all_goals rfl
theorem dayB_size {k : Nat} (h : k ≤ 6) : 3 ≤ (dayB k).size ∧ (dayB k).size ≤ 9 := by
  obtain rfl | rfl | rfl | rfl | rfl | rfl | rfl : k = 0 ∨ k = 1 ∨ k = 2 ∨ k = 3 ∨ k = 4 ∨ k = 5 ∨ k = 6 := by omega
  all_goals decide
theorem monB_size {k : Nat} (h : k ≤ 11) : (monB k).size ≤ 3 := by
  obtain rfl | rfl | rfl | rfl | rfl | rfl | rfl | rfl | rfl | rfl | rfl | rfl : k = 0 ∨ k = 1 ∨ k = 2 ∨ k = 3 ∨ k = 4 ∨ k = 5 ∨ k = 6 ∨ k = 7 ∨ k = 8 ∨ k = 9 ∨ k = 10 ∨ k = 11 := by omega
  all_goals decide
/-- A date's text, its weekday k, its month j + 1. -/
def dateB (k j : Nat) (y d r : Int) : ByteArray := ((((((((((dayB k).extract 0 3 ++ ⟨#[44, 32]⟩) ++ padB d 2) ++ ⟨#[32]⟩) ++ monB j) ++ ⟨#[32]⟩) ++ padB y 4) ++ ⟨#[32]⟩) ++ clockB r) ++ ⟨#[32, 71, 77, 84]⟩)
theorem clockB_size (r : Int) (hr : 0 ≤ r) (hr2 : r < 86400) : (clockB r).size ≤ 272 := by
  have h1 := pad_size (r / 3600) 2 (by omega) (by omega)
  have h2 := pad_size (r / 60 % 60) 2 (by omega) (by omega)
  have h3 := pad_size (r % 60) 2 (by omega) (by omega)
  unfold clockB
  rw [ByteArray.size_append, ByteArray.size_append, ByteArray.size_append, ByteArray.size_append]
  have : (⟨#[58]⟩ : ByteArray).size = 1 := rfl
  omega
/-- What holds between the region's operations: the date's block, what lay before; the weekdays' row; the months' row. -/
structure DateS (w : World) (C : Array Value) (v : World) : Prop where
  d : Blk v w.heap.size C 73
  u : Below w.heap.size w v
theorem DateS.alloc {w v : World} {C : Array Value} (h : DateS w C v) (o : Obj) : DateS w C (v.alloc o) := ⟨h.d.alloc o, h.u.alloc h.u.size o⟩
theorem DateS.below {w v v' : World} {C : Array Value} (h : DateS w C v) (b : Below v.heap.size v v') : DateS w C v' := ⟨h.d.call b, h.u.trans (b.mono h.u.size)⟩
structure DateS1 (w : World) (C : Array Value) (g : Nat) (v : World) : Prop where
  s : DateS w C v
  b : Blk v g dayRow 9
theorem DateS1.alloc {w v : World} {C : Array Value} {g : Nat} (h : DateS1 w C g v) (o : Obj) : DateS1 w C g (v.alloc o) := ⟨h.s.alloc o, h.b.alloc o⟩
theorem DateS1.below {w v v' : World} {C : Array Value} {g : Nat} (h : DateS1 w C g v) (b : Below v.heap.size v v') : DateS1 w C g v' := ⟨h.s.below b, h.b.call b⟩
structure DateS2 (w : World) (C : Array Value) (g g2 : Nat) (v : World) : Prop where
  s : DateS1 w C g v
  b : Blk v g2 monRow 9
theorem rdays_new (w : World) : Calls Try.prog 57 #[] w fun e w' => ∃ g, g = w.heap.size ∧ e = .returned (.slice (some ⟨g, 0, none⟩) 7 7) ∧ w' = w.alloc (.cells dayRow 9) := (rdays_row w).mono fun _ _ ⟨h, k⟩ => ⟨_, rfl, h, k.symm⟩
theorem rmonths_new (w : World) : Calls Try.prog 59 #[] w fun e w' => ∃ g, g = w.heap.size ∧ e = .returned (.slice (some ⟨g, 0, none⟩) 12 12) ∧ w' = w.alloc (.cells monRow 9) := (rmonths_row w).mono fun _ _ ⟨h, k⟩ => ⟨_, rfl, h, k.symm⟩
set_option maxRecDepth 100000 in
set_option maxHeartbeats 1000000 in
theorem rwrite_any {n y m d : Int} (r : Int) (k j : Nat) (hd : IsDate n y m d) (hr : 0 ≤ r) (hr2 : r < 86400) (hk : weekD n = k) (hj : m = (j : Int) + 1) (w : World) : Calls Try.prog 48 #[dateV y m d r, .int .i64 1] w fun e w' => e = .returned (.string (dateB k j y d r)) ∧ Below w.heap.size w w' := by
  have hy1 := hd.y1
  have hy2 := hd.y2
  have hm1 := hd.m1
  have hm2 := hd.m2
  have hd1 := hd.d1
  have hd31 : d ≤ 31 := by have := (longM_range y m hd.m1 hd.m2).2; have := hd.d2; omega
  have hk6 : k ≤ 6 := by unfold weekD at hk; omega
  have hj11 : j ≤ 11 := by omega
  have hdr := dayRow_at hk6
  have hmr := monRow_at hj11
  obtain ⟨zd1, zd2⟩ := dayB_size hk6
  have zm := monB_size hj11
  have zp := pad_size d 2 (by omega) (by omega)
  have zy := pad_size y 4 (by omega) (by omega)
  have zc := clockB_size r hr hr2
  obtain ⟨C, hC⟩ : ∃ C : Array Value, dateV y m d r = .agg C ∧ C = #[.int .i64 y, .int .i64 ((j : Int) + 1), .int .i64 d, .int .i64 (r / 3600), .int .i64 (r / 60 % 60), .int .i64 (r % 60)] := ⟨_, by rw [← hj]; rfl, rfl⟩
  obtain ⟨hCv, hCe⟩ := hC
  have HDay : Hid (∀ W, Calls Try.prog 58 #[.agg C] W fun e w' => e = .returned (.int .i64 k) ∧ Below W.heap.size W w') := by
    show ∀ W, Calls Try.prog 58 #[.agg C] W _
    intro W
    have := rday_any r hd W
    rw [hk, hCv] at this
    exact this
  have HClk : Hid (∀ W, Calls Try.prog 61 #[.agg C] W fun e w' => e = .returned (.string (clockB r)) ∧ Below W.heap.size W w') := by
    show ∀ W, Calls Try.prog 61 #[.agg C] W _
    intro W
    have := rclock_any y m d r hr hr2 W
    rw [hCv] at this
    exact this
  obtain ⟨PF, hPF⟩ : ∃ P : Int → Int → ByteArray, P = fun x v => padB x v := ⟨_, rfl⟩
  have HP : Hid (∀ (x v : Int) (h : -9223372036854775808 ≤ x) (h' : x ≤ 9223372036854775807) (W : World), Calls Try.prog 60 #[.int .i64 x, .int .i64 v] W fun e w' => e = .returned (.string (PF x v)) ∧ Below W.heap.size W w') := fun x v h h' W => (rpad_any x v h h' W).mono fun e w' ⟨a, k, b⟩ => ⟨by rw [a, hPF], by rw [← b]; exact ⟨rfl, rfl, rfl, Nat.le_refl _, fun _ _ => rfl⟩⟩
  have hPD : padB d 2 = PF d 2 := by rw [hPF]
  have hPY : padB y 4 = PF y 4 := by rw [hPF]
  rw [hPD] at zp
  rw [hPY] at zy
  have hV : dateB k j y d r = ((((((((((dayB k).extract 0 3 ++ ⟨#[44, 32]⟩) ++ padB d 2) ++ ⟨#[32]⟩) ++ monB j) ++ ⟨#[32]⟩) ++ padB y 4) ++ ⟨#[32]⟩) ++ clockB r) ++ ⟨#[32, 71, 77, 84]⟩) := rfl
  rw [hCv]
  clear hCv hk hj hd hr hr2
  generalize dayB k = DK at hdr zd1 zd2 hV
  generalize hM : monB j = M at hmr zm hV
  rw [hPD, hPY] at hV
  generalize hCLe : clockB r = CL at HClk hV zc
  obtain ⟨A, hA⟩ : ∃ X : ByteArray, X = DK.extract 0 3 := ⟨_, rfl⟩
  have zA : A.size ≤ 9 := by rw [hA, ByteArray.size_extract]; omega
  have zl1 : (⟨#[44, 32]⟩ : ByteArray).size = 2 := rfl
  have zl2 : (⟨#[32]⟩ : ByteArray).size = 1 := rfl
  have zl3 : (⟨#[32, 71, 77, 84]⟩ : ByteArray).size = 4 := rfl
  obtain ⟨B0, hB0⟩ : ∃ X : ByteArray, X = A ++ (⟨#[44, 32]⟩) := ⟨_, rfl⟩
  have zB0 : B0.size = A.size + (⟨#[44, 32]⟩ : ByteArray).size := by rw [hB0, ByteArray.size_append]
  obtain ⟨B1, hB1⟩ : ∃ X : ByteArray, X = B0 ++ (PF d 2) := ⟨_, rfl⟩
  have zB1 : B1.size = B0.size + (PF d 2 : ByteArray).size := by rw [hB1, ByteArray.size_append]
  obtain ⟨B2, hB2⟩ : ∃ X : ByteArray, X = B1 ++ (⟨#[32]⟩) := ⟨_, rfl⟩
  have zB2 : B2.size = B1.size + (⟨#[32]⟩ : ByteArray).size := by rw [hB2, ByteArray.size_append]
  obtain ⟨B3, hB3⟩ : ∃ X : ByteArray, X = B2 ++ (M) := ⟨_, rfl⟩
  have zB3 : B3.size = B2.size + (M : ByteArray).size := by rw [hB3, ByteArray.size_append]
  obtain ⟨B4, hB4⟩ : ∃ X : ByteArray, X = B3 ++ (⟨#[32]⟩) := ⟨_, rfl⟩
  have zB4 : B4.size = B3.size + (⟨#[32]⟩ : ByteArray).size := by rw [hB4, ByteArray.size_append]
  obtain ⟨B5, hB5⟩ : ∃ X : ByteArray, X = B4 ++ (PF y 4) := ⟨_, rfl⟩
  have zB5 : B5.size = B4.size + (PF y 4 : ByteArray).size := by rw [hB5, ByteArray.size_append]
  obtain ⟨B6, hB6⟩ : ∃ X : ByteArray, X = B5 ++ (⟨#[32]⟩) := ⟨_, rfl⟩
  have zB6 : B6.size = B5.size + (⟨#[32]⟩ : ByteArray).size := by rw [hB6, ByteArray.size_append]
  obtain ⟨B7, hB7⟩ : ∃ X : ByteArray, X = B6 ++ (CL) := ⟨_, rfl⟩
  have zB7 : B7.size = B6.size + (CL : ByteArray).size := by rw [hB7, ByteArray.size_append]
  obtain ⟨B8, hB8⟩ : ∃ X : ByteArray, X = B7 ++ (⟨#[32, 71, 77, 84]⟩) := ⟨_, rfl⟩
  have zB8 : B8.size = B7.size + (⟨#[32, 71, 77, 84]⟩ : ByteArray).size := by rw [hB8, ByteArray.size_append]
  have hadd0 : ∀ W : World, (Op.stringOp .add (A) (⟨#[44, 32]⟩)).run Try.prog W = .ok (.string B0) W := fun W => (run_string_add_sum (P := Try.prog) (w := W) A (⟨#[44, 32]⟩) (by omega)).trans (by rw [← hB0])
  have hadd1 : ∀ W : World, (Op.stringOp .add (B0) (PF d 2)).run Try.prog W = .ok (.string B1) W := fun W => (run_string_add_sum (P := Try.prog) (w := W) B0 (PF d 2) (by omega)).trans (by rw [← hB1])
  have hadd2 : ∀ W : World, (Op.stringOp .add (B1) (⟨#[32]⟩)).run Try.prog W = .ok (.string B2) W := fun W => (run_string_add_sum (P := Try.prog) (w := W) B1 (⟨#[32]⟩) (by omega)).trans (by rw [← hB2])
  have hadd3 : ∀ W : World, (Op.stringOp .add (B2) (M)).run Try.prog W = .ok (.string B3) W := fun W => (run_string_add_sum (P := Try.prog) (w := W) B2 (M) (by omega)).trans (by rw [← hB3])
  have hadd4 : ∀ W : World, (Op.stringOp .add (B3) (⟨#[32]⟩)).run Try.prog W = .ok (.string B4) W := fun W => (run_string_add_sum (P := Try.prog) (w := W) B3 (⟨#[32]⟩) (by omega)).trans (by rw [← hB4])
  have hadd5 : ∀ W : World, (Op.stringOp .add (B4) (PF y 4)).run Try.prog W = .ok (.string B5) W := fun W => (run_string_add_sum (P := Try.prog) (w := W) B4 (PF y 4) (by omega)).trans (by rw [← hB5])
  have hadd6 : ∀ W : World, (Op.stringOp .add (B5) (⟨#[32]⟩)).run Try.prog W = .ok (.string B6) W := fun W => (run_string_add_sum (P := Try.prog) (w := W) B5 (⟨#[32]⟩) (by omega)).trans (by rw [← hB6])
  have hadd7 : ∀ W : World, (Op.stringOp .add (B6) (CL)).run Try.prog W = .ok (.string B7) W := fun W => (run_string_add_sum (P := Try.prog) (w := W) B6 (CL) (by omega)).trans (by rw [← hB7])
  have hadd8 : ∀ W : World, (Op.stringOp .add (B7) (⟨#[32, 71, 77, 84]⟩)).run Try.prog W = .ok (.string B8) W := fun W => (run_string_add_sum (P := Try.prog) (w := W) B7 (⟨#[32, 71, 77, 84]⟩) (by omega)).trans (by rw [← hB8])
  have hsl : ∀ W : World, (Instr.slice 9 (.string DK) none (some (.int .i64 3)) none).run Try.prog W = .ok (.string A) W := fun W => by
    go_simp
    intro hlt
    omega
  have HV : Hid (dateB k j y d r = B8) := by
    show dateB k j y d r = B8
    rw [hV, hB8, hB7, hB6, hB5, hB4, hB3, hB2, hB1, hB0, hA]
  have HC : Hid (C = #[.int .i64 y, .int .i64 ((j : Int) + 1), .int .i64 d, .int .i64 (r / 3600), .int .i64 (r / 60 % 60), .int .i64 (r % 60)]) := hCe
  have Hdr := Lib.hid hdr
  have Hmr := Lib.hid hmr
  have hs0 : DateS w C (w.alloc (.cells C 73)).drew := ⟨Blk.new _ _ _, ((Below.refl _ _).alloc (Nat.le_refl _) _).drew⟩
  have HS0 := Lib.hid hs0
  have hwj : IntKind.i64.wrap (j : Int) = j := IntWalk.i64_in _ (by omega)
  have hk0 : (0 : Int) ≤ (k : Int) := by omega
  have hk7 : (k : Int) < 7 := by omega
  have hj0 : (0 : Int) ≤ (j : Int) := by omega
  have hj12 : (j : Int) < 12 := by omega
  clear hs0 hdr hmr hV hM hPD hPY hPF hCLe hA hB0 zB0 hB1 zB1 hB2 zB2 hB3 zB3 hB4 zB4 hB5 zB5 hB6 zB6 hB7 zB7 hB8 zB8 zA zl1 zl2 zl3 zd1 zd2 zm zp zy zc hCe hk6 hj11 hm1 hm2
  go_enter Try.func48, Try.ntmps48
  go_wp2_with fail
  refine wp_region_at (S := DateS w C) (by kernel_rfl) ?_
  rintro V0 hV0
  have h0 : DateS w C V0 := by rw [hV0]; exact HS0.out
  clear hV0
  refine wpAnyH_take (i := 1) (v := .agg C) rfl (by kernel_rfl) (by kernel_rfl) (by kernel_rfl) (fun _ _ _ h => h) (Or.inl ⟨by rfl, ?hy1⟩) h0 ?rest1
  case hy1 =>
    intro v hv
    have q0 := hv.d.cell 0
    have q1 := hv.d.cell 1
    have q2 := hv.d.cell 2
    have q3 := hv.d.cell 3
    have q4 := hv.d.cell 4
    have q5 := hv.d.cell 5
    rw [HC.out] at q0 q1 q2 q3 q4 q5 ⊢
    simp at q0 q1 q2 q3 q4 q5
    clear hv
    go_simp
  (try simp only [Act.put, List.setIfInBounds_toArray, List.set_cons_zero, List.set_cons_succ])
  refine wpAnyH_take (i := 6) (v := .pointer (some ⟨w.heap.size, 1, none⟩)) rfl (by kernel_rfl) (by kernel_rfl) (by kernel_rfl) (fun _ _ _ h => h) (Or.inl ⟨by rfl, ?hy2⟩) h0 ?rest2
  case hy2 =>
    intro v hv
    clear hv
    go_simp
  (try simp only [Act.put, List.setIfInBounds_toArray, List.set_cons_zero, List.set_cons_succ])
  refine wpAnyH_take (i := 7) (v := .int .i64 ((j : Int) + 1)) rfl (by kernel_rfl) (by kernel_rfl) (by kernel_rfl) (fun _ _ _ h => h) (Or.inl ⟨by rfl, ?hy3⟩) h0 ?rest3
  case hy3 =>
    intro v hv
    have q1 : v.cell? ⟨w.heap.size, 1, none⟩ = some (.int .i64 ((j : Int) + 1)) := by rw [hv.d.cell 1, HC.out]; rfl
    clear hv
    go_simp
  (try simp only [Act.put, List.setIfInBounds_toArray, List.set_cons_zero, List.set_cons_succ])
  refine wpAnyH_take (i := 8) (v := .int .i64 (j : Int)) rfl (by kernel_rfl) (by kernel_rfl) (by kernel_rfl) (fun _ _ _ h => h) (Or.inl ⟨by rfl, ?hy4⟩) h0 ?rest4
  case hy4 =>
    intro v hv
    clear hv
    go_simp
  (try simp only [Act.put, List.setIfInBounds_toArray, List.set_cons_zero, List.set_cons_succ])
  refine wpAnyH_ready (rs := [0]) (by kernel_rfl) (by simp) ?_
  refine AllReadyH.cons rfl (fun K hK => ?_) AllReadyH.nil
  go_simp
  refine (rdays_new _).mono ?_
  rintro e V1 ⟨g, hg, rfl, rfl⟩
  have h1 : DateS1 w C g (V0.alloc (.cells dayRow 9)) := ⟨h0.alloc _, by rw [hg]; exact Blk.new _ _ _⟩
  clear hg
  refine hK _ _ h1.s (fun _ => ?_)
  clear hK K h0
  generalize V0.alloc (.cells dayRow 9) = V1 at h1 ⊢
  refine wpAnyH_grow (T := DateS1 w C g) (fun _ h => h.s) _ _ _ _ ?_
  (try simp only [Act.put, List.setIfInBounds_toArray, List.set_cons_zero, List.set_cons_succ])
  refine wpAnyH_ready (rs := [2]) (by kernel_rfl) (by simp) ?_
  refine AllReadyH.cons rfl (fun K hK => ?_) AllReadyH.nil
  go_simp
  refine (HDay.out _).mono ?_
  rintro e V2 ⟨rfl, hb⟩
  have h2 := h1.below hb
  clear hb h1
  refine hK _ _ h2 (fun _ => ?_)
  clear hK K
  (try simp only [Act.put, List.setIfInBounds_toArray, List.set_cons_zero, List.set_cons_succ])
  refine wpAnyH_take (i := 3) (v := .pointer (some ⟨g, k, none⟩)) rfl (by kernel_rfl) (by kernel_rfl) (by kernel_rfl) (fun _ _ _ h => h) (Or.inl ⟨by rfl, ?hy5⟩) h2 ?rest5
  case hy5 =>
    intro v hv
    clear hv
    go_simp
  (try simp only [Act.put, List.setIfInBounds_toArray, List.set_cons_zero, List.set_cons_succ])
  refine wpAnyH_take (i := 4) (v := .string DK) rfl (by kernel_rfl) (by kernel_rfl) (by kernel_rfl) (fun _ _ _ h => h) (Or.inl ⟨by rfl, ?hy6⟩) h2 ?rest6
  case hy6 =>
    intro v hv
    have q1 : v.cell? ⟨g, k, none⟩ = some (.string DK) := by rw [hv.b.cell k]; exact Hdr.out
    clear hv
    go_simp
  (try simp only [Act.put, List.setIfInBounds_toArray, List.set_cons_zero, List.set_cons_succ])
  refine wpAnyH_ready (rs := [5]) (by kernel_rfl) (by simp) ?_
  refine AllReadyH.cons rfl (fun K hK => ?_) AllReadyH.nil
  go_simp
  refine (rmonths_new _).mono ?_
  rintro e V3 ⟨g2, hg2, rfl, rfl⟩
  have h3 : DateS2 w C g g2 (V2.alloc (.cells monRow 9)) := ⟨h2.alloc _, by rw [hg2]; exact Blk.new _ _ _⟩
  clear hg2
  refine hK _ _ h3.s (fun _ => ?_)
  clear hK K h2
  generalize V2.alloc (.cells monRow 9) = V3 at h3 ⊢
  refine wpAnyH_grow (T := DateS2 w C g g2) (fun _ h => h.s) _ _ _ _ ?_
  (try simp only [Act.put, List.setIfInBounds_toArray, List.set_cons_zero, List.set_cons_succ])
  refine wpAnyH_take (i := 9) (v := .pointer (some ⟨g2, j, none⟩)) rfl (by kernel_rfl) (by kernel_rfl) (by kernel_rfl) (fun _ _ _ h => h) (Or.inl ⟨by rfl, ?hy7⟩) h3 ?rest7
  case hy7 =>
    intro v hv
    clear hv
    go_simp
  (try simp only [Act.put, List.setIfInBounds_toArray, List.set_cons_zero, List.set_cons_succ])
  refine wpAnyH_take (i := 10) (v := .string M) rfl (by kernel_rfl) (by kernel_rfl) (by kernel_rfl) (fun _ _ _ h => h) (Or.inl ⟨by rfl, ?hy8⟩) h3 ?rest8
  case hy8 =>
    intro v hv
    have q1 : v.cell? ⟨g2, j, none⟩ = some (.string M) := by rw [hv.b.cell j]; exact Hmr.out
    clear hv
    go_simp
  (try simp only [Act.put, List.setIfInBounds_toArray, List.set_cons_zero, List.set_cons_succ])
  refine wpAnyH_take (i := 11) (v := .string DK) rfl (by kernel_rfl) (by kernel_rfl) (by kernel_rfl) (fun _ _ _ h => h) (Or.inl ⟨by rfl, ?hy9⟩) h3 ?rest9
  case hy9 =>
    intro v hv
    clear hv
    go_simp
  (try simp only [Act.put, List.setIfInBounds_toArray, List.set_cons_zero, List.set_cons_succ])
  refine wpAnyH_take (i := 12) (v := .string M) rfl (by kernel_rfl) (by kernel_rfl) (by kernel_rfl) (fun _ _ _ h => h) (Or.inl ⟨by rfl, ?hy10⟩) h3 ?rest10
  case hy10 =>
    intro v hv
    clear hv
    go_simp
  (try simp only [Act.put, List.setIfInBounds_toArray, List.set_cons_zero, List.set_cons_succ])
  refine wpAnyH_done (by kernel_rfl) ?_ _
  have hs3 := h3.s.s
  clear h3
  have NI : Nonempty (Cl (DateS w C)) := ⟨⟨_, hs3⟩⟩
  have HS3 : Hid (DateS w C V3.drew) := ⟨hs3.d, hs3.u.drew⟩
  have p0 : ∀ s' : Cl (DateS w C), s'.val.cell? ⟨w.heap.size, 0, none⟩ = some (.int .i64 y) := fun s' => (s'.ok.d.cell 0).trans (by rw [HC.out]; rfl)
  have p1 : ∀ s' : Cl (DateS w C), s'.val.cell? ⟨w.heap.size, 1, none⟩ = some (.int .i64 ((j : Int) + 1)) := fun s' => (s'.ok.d.cell 1).trans (by rw [HC.out]; rfl)
  have p2 : ∀ s' : Cl (DateS w C), s'.val.cell? ⟨w.heap.size, 2, none⟩ = some (.int .i64 d) := fun s' => (s'.ok.d.cell 2).trans (by rw [HC.out]; rfl)
  have p3 : ∀ s' : Cl (DateS w C), s'.val.cell? ⟨w.heap.size, 3, none⟩ = some (.int .i64 (r / 3600)) := fun s' => (s'.ok.d.cell 3).trans (by rw [HC.out]; rfl)
  have p4 : ∀ s' : Cl (DateS w C), s'.val.cell? ⟨w.heap.size, 4, none⟩ = some (.int .i64 (r / 60 % 60)) := fun s' => (s'.ok.d.cell 4).trans (by rw [HC.out]; rfl)
  have p5 : ∀ s' : Cl (DateS w C), s'.val.cell? ⟨w.heap.size, 5, none⟩ = some (.int .i64 (r % 60)) := fun s' => (s'.ok.d.cell 5).trans (by rw [HC.out]; rfl)
  have HCl2 : Hid (∀ W, Calls Try.prog 61 #[.agg #[.int .i64 y, .int .i64 ((j : Int) + 1), .int .i64 d, .int .i64 (r / 3600), .int .i64 (r / 60 % 60), .int .i64 (r % 60)]] W fun e w' => e = .returned (.string CL) ∧ Below W.heap.size W w') := by
    have := HClk.out
    rw [HC.out] at this
    exact this
  clear hs3
  go_wp2_with fail
  refine wp_region_cl HS3.out (by kernel_rfl) (by kernel_rfl) ?_
  repeat go_big_quiet_step (first | (go_at_call 61; exact Calls.cl_of ((HCl2.out _).mono fun _ _ ⟨a, b⟩ => ⟨a, DateS.below (Cl.ok _) b⟩)) | (go_at_call 60; exact Calls.cl_of ((HP.out _ _ (by omega) (by omega) _).mono fun _ _ ⟨a, b⟩ => ⟨a, DateS.below (Cl.ok _) b⟩)))
  refine wpQuiet_nil ?_
  rintro _ ⟨s', rfl⟩
  clear hwj
  go_wp2_with fail
  go_ret
  rw [HV.out]
  exact ⟨rfl, s'.ok.u⟩
end Go.Proofs.Ytkcimbjgjamloaa

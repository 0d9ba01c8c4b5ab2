/- Package civil: the weekday and the date of a time; the reference's weekday. -/
import Derived.Test.YtkcimbjgjamloaaCivilW
namespace Go.Proofs.Ytkcimbjgjamloaa
open Go.RowKit Civ
theorem tdm (a b : Int) (hb : 0 < b) : b * a.tdiv b + a.tmod b = a ∧ -b < a.tmod b ∧ a.tmod b < b ∧ (0 ≤ a → 0 ≤ a.tmod b) ∧ (a ≤ 0 → a.tmod b ≤ 0) := by
  refine ⟨Int.mul_tdiv_add_tmod a b, ?_, Int.tmod_lt_of_pos a hb, fun h => Int.tmod_nonneg b h, fun h => ?_⟩
  · have h1 := Int.tmod_lt_of_pos (-a) hb
    rw [Int.neg_tmod] at h1
    omega
  · have h1 := Int.tmod_nonneg b (a := -a) (by omega)
    rw [Int.neg_tmod] at h1
    omega
theorem results_row_tmp {P : Program} {fn : Func} {p u : Tmp} {ty : TypeId} (h : fn.results = #[.cell p ty, .tmp u]) (tmps : Array Value) (w : World) (g : Nat) (cs : Array Value)
    (hp : tmps.getD p undef = .pointer (some ⟨g, 0, none⟩)) (hl : (loadVar ty ⟨g, 0, none⟩).run P w = .ok (.agg cs) w) :
    (results fn tmps).run P w = .ok (.tuple #[.agg cs, tmps.getD u undef]) w := by
  rw [results_cell_tmp h, hp]
  show ((loadVar ty ⟨g, 0, none⟩).run P w).andThen _ = _
  rw [hl]
  rfl
/-- The weekday of a day. -/
def weekD (n : Int) : Int := (n + 4) % 7
theorem weekday_any (n : Int) (h1 : -719162 ≤ n) (h2 : n < 2932897) (w : World) : Calls Try.prog 44 #[.int .i64 n] w fun e w' => e = .returned (.int .i64 (weekD n)) ∧ w = w' := by
  have HV : Hid (∀ k : Nat, n.tmod 7 = (k : Int) - 6 → ((k : Int) - 6 + 11) % 7 = weekD n) := by
    show ∀ k : Nat, _ → _
    intro k hk
    unfold weekD
    have := tdm n 7 (by decide)
    omega
  obtain ⟨k, hk⟩ : ∃ k : Nat, n.tmod 7 = (k : Int) - 6 := ⟨(n.tmod 7 + 6).toNat, by have := tdm n 7 (by decide); omega⟩
  have hk2 : k ≤ 12 := by have := tdm n 7 (by decide); omega
  have v1 : Value.int .i64 (n.tmod 7) = .int .i64 ((k : Int) - 6) := by rw [hk]
  have HE := Lib.hid (HV.out k hk)
  clear HV hk
  go_enter Try.func44, Try.ntmps44
  go_wp2_with fail
  go_ret
  exact ⟨congrArg (fun v => Ending.returned (Value.int .i64 v)) HE.out, rfl⟩
/-- The date of a time, as the program's and the reference's type hold it. -/
def dateV (y m d r : Int) : Value := .agg #[.int .i64 y, .int .i64 m, .int .i64 d, .int .i64 (r / 3600), .int .i64 (r / 60 % 60), .int .i64 (r % 60)]
set_option maxRecDepth 100000 in
set_option maxHeartbeats 2000000 in
theorem date_late {s n y m d r : Int} (hd : IsDate n y m d) (hs : s = n * 86400 + r) (hr : 0 ≤ r) (hr2 : r < 86400) (h0 : 0 ≤ s) (w : World) : Calls Try.prog 40 #[.int .i64 s] w fun e w' => e = .returned (.tuple #[dateV y m d r, .bool true]) ∧ Below w.heap.size w w' := by
  obtain ⟨hn1, hn2⟩ := IsDate_range hd
  have HO : Hid (∀ (x : Int) (W : World), x = n → Calls Try.prog 52 #[.int .i64 x] W fun e w' => e = .returned (.tuple #[.int .i64 y, .int .i64 m, .int .i64 d, .bool true]) ∧ W = w') := fun x W e => by rw [e]; exact of_any hd W
  clear hd
  obtain ⟨N, rfl⟩ : ∃ k : Nat, n = k := ⟨n.toNat, by omega⟩
  obtain ⟨R, rfl⟩ : ∃ k : Nat, r = k := ⟨r.toNat, by omega⟩
  have v1 : Value.int .i64 (s / 86400) = .int .i64 (N : Int) := by rw [show s / 86400 = (N : Int) by omega]
  have v2 : Value.int .i64 (s % 86400) = .int .i64 (R : Int) := by rw [show s % 86400 = (R : Int) by omega]
  have s1 : s ≤ 253402300799 := by omega
  have r3 : (R : Int) ≤ 86399 := by omega
  have n3 : (N : Int) ≤ 2932896 := by omega
  clear hs hr2 hn1 hn2
  go_enter Try.func40, Try.ntmps40
  go_wp2_with (go_at_call 52; refine (HO.out _ _ ?_).mono ?_; (omega); rintro e' w' ⟨rfl, rfl⟩)
  exact bodyPost_ret (results_row_tmp Try.results40 _ _ _ _ rfl (run_loadVar_row _ _ _ _ _ _ _ (heap_alloc_new _ _) Try.underlying73 rfl (by kernel_rfl))) rfl ⟨rfl, (Below.refl _ _).alloc (Nat.le_refl _) _⟩
set_option maxRecDepth 100000 in
set_option maxHeartbeats 2000000 in
theorem date_early {s n y m d r : Int} (hd : IsDate n y m d) (hs : s = n * 86400 + r) (hr : 1 ≤ r) (hr2 : r < 86400) (h0 : s < 0) (w : World) : Calls Try.prog 40 #[.int .i64 s] w fun e w' => e = .returned (.tuple #[dateV y m d r, .bool true]) ∧ Below w.heap.size w w' := by
  obtain ⟨hn1, hn2⟩ := IsDate_range hd
  have HO : Hid (∀ (x : Int) (W : World), x = n → Calls Try.prog 52 #[.int .i64 x] W fun e w' => e = .returned (.tuple #[.int .i64 y, .int .i64 m, .int .i64 d, .bool true]) ∧ W = w') := fun x W e => by rw [e]; exact of_any hd W
  clear hd
  obtain ⟨N, rfl⟩ : ∃ k : Nat, n = -(k : Int) := ⟨(-n).toNat, by omega⟩
  obtain ⟨R, rfl⟩ : ∃ k : Nat, r = k := ⟨r.toNat, by omega⟩
  have ht := tdm s 86400 (by decide)
  have v1 : Value.int .i64 (s.tdiv 86400) = .int .i64 (-(N : Int) + 1) := by rw [show s.tdiv 86400 = -(N : Int) + 1 by omega]
  have v2 : Value.int .i64 (s.tmod 86400) = .int .i64 ((R : Int) - 86400) := by rw [show s.tmod 86400 = (R : Int) - 86400 by omega]
  have s1 : -62135596800 ≤ s := by omega
  have r3 : (R : Int) ≤ 86399 := by omega
  have n3 : (N : Int) ≤ 719162 := by omega
  have n4 : 1 ≤ (N : Int) := by omega
  clear hs hr2 hn1 hn2 ht
  go_enter Try.func40, Try.ntmps40
  go_wp2_with (go_at_call 52; refine (HO.out _ _ ?_).mono ?_; (omega); rintro e' w' ⟨rfl, rfl⟩)
  exact bodyPost_ret (results_row_tmp Try.results40 _ _ _ _ rfl (run_loadVar_row _ _ _ _ _ _ _ (heap_alloc_new _ _) Try.underlying73 rfl (by kernel_rfl))) rfl ⟨rfl, (Below.refl _ _).alloc (Nat.le_refl _) _⟩
set_option maxRecDepth 100000 in
set_option maxHeartbeats 2000000 in
theorem date_exact {s n y m d r : Int} (hd : IsDate n y m d) (hs : s = n * 86400 + r) (hr : r = 0) (hr2 : r < 86400) (h0 : s < 0) (w : World) : Calls Try.prog 40 #[.int .i64 s] w fun e w' => e = .returned (.tuple #[dateV y m d r, .bool true]) ∧ Below w.heap.size w w' := by
  obtain ⟨hn1, hn2⟩ := IsDate_range hd
  have HO : Hid (∀ (x : Int) (W : World), x = n → Calls Try.prog 52 #[.int .i64 x] W fun e w' => e = .returned (.tuple #[.int .i64 y, .int .i64 m, .int .i64 d, .bool true]) ∧ W = w') := fun x W e => by rw [e]; exact of_any hd W
  clear hd
  obtain ⟨N, rfl⟩ : ∃ k : Nat, n = -(k : Int) := ⟨(-n).toNat, by omega⟩
  subst hr
  have ht := tdm s 86400 (by decide)
  have v1 : Value.int .i64 (s.tdiv 86400) = .int .i64 (-(N : Int)) := by rw [show s.tdiv 86400 = -(N : Int) by omega]
  have v2 : Value.int .i64 (s.tmod 86400) = .int .i64 (0) := by rw [show s.tmod 86400 = 0 by omega]
  have s1 : -62135596800 ≤ s := by omega
  have r3 : s ≤ -1 := by omega
  have n3 : (N : Int) ≤ 719162 := by omega
  have n4 : 1 ≤ (N : Int) := by omega
  clear hs hr2 hn1 hn2 ht
  go_enter Try.func40, Try.ntmps40
  go_wp2_with (go_at_call 52; refine (HO.out _ _ ?_).mono ?_; (omega); rintro e' w' ⟨rfl, rfl⟩)
  exact bodyPost_ret (results_row_tmp Try.results40 _ _ _ _ rfl (run_loadVar_row _ _ _ _ _ _ _ (heap_alloc_new _ _) Try.underlying73 rfl (by kernel_rfl))) rfl ⟨rfl, (Below.refl _ _).alloc (Nat.le_refl _) _⟩
set_option maxRecDepth 100000 in
set_option maxHeartbeats 2000000 in
theorem date_above {s : Int} (h : 253402300800 ≤ s) (hh : s ≤ 9223372036854775807) (w : World) : Calls Try.prog 40 #[.int .i64 s] w fun e w' => e = .returned (.tuple #[dateV 0 0 0 0, .bool false]) ∧ Below w.heap.size w w' := by
  have HO : Hid (∀ (x : Int) (W : World), -9223372036854775808 ≤ x → x ≤ 9223372036854775807 → (x < -719162 ∨ 2932897 ≤ x) → Calls Try.prog 52 #[.int .i64 x] W fun e w' => e = .returned (.tuple #[.int .i64 0, .int .i64 0, .int .i64 0, .bool false]) ∧ W = w') := fun x W h1 h2 h => of_none h1 h2 h W
  obtain ⟨N, hN⟩ : ∃ k : Nat, s / 86400 = k := ⟨(s / 86400).toNat, by omega⟩
  have n1 : 2932897 ≤ (N : Int) := by omega
  have n2 : (N : Int) ≤ 106751991167300 := by omega
  obtain ⟨R, hR⟩ : ∃ k : Nat, s % 86400 = k := ⟨(s % 86400).toNat, by omega⟩
  have r3 : (R : Int) ≤ 86399 := by omega
  have s1 : 0 ≤ s := by omega
  have v1 : Value.int .i64 (s / 86400) = .int .i64 (N : Int) := by rw [hN]
  have v2 : Value.int .i64 (s % 86400) = .int .i64 (R : Int) := by rw [hR]
  clear hN hR
  go_enter Try.func40, Try.ntmps40
  go_wp2_with (go_at_call 52; refine (HO.out _ _ ?_ ?_ ?_).mono ?_; (omega); (omega); (omega); rintro e' w' ⟨rfl, rfl⟩)
  exact bodyPost_ret (results_row_tmp Try.results40 _ _ _ _ rfl (run_loadVar_row _ _ _ _ _ _ _ (heap_alloc_new _ _) Try.underlying73 rfl (by kernel_rfl))) rfl ⟨rfl, (Below.refl _ _).alloc (Nat.le_refl _) _⟩
set_option maxRecDepth 100000 in
set_option maxHeartbeats 2000000 in
theorem date_below1 {s : Int} (h : s < -62135596800) (hl : -9223372036854775808 ≤ s) (hm : s.tmod 86400 ≠ 0) (w : World) : Calls Try.prog 40 #[.int .i64 s] w fun e w' => e = .returned (.tuple #[dateV 0 0 0 0, .bool false]) ∧ Below w.heap.size w w' := by
  have HO : Hid (∀ (x : Int) (W : World), -9223372036854775808 ≤ x → x ≤ 9223372036854775807 → (x < -719162 ∨ 2932897 ≤ x) → Calls Try.prog 52 #[.int .i64 x] W fun e w' => e = .returned (.tuple #[.int .i64 0, .int .i64 0, .int .i64 0, .bool false]) ∧ W = w') := fun x W h1 h2 h => of_none h1 h2 h W
  have ht := tdm s 86400 (by decide)
  obtain ⟨N, hN⟩ : ∃ k : Nat, s.tdiv 86400 = -(k : Int) := ⟨(-(s.tdiv 86400)).toNat, by omega⟩
  have n1 : 719162 ≤ (N : Int) := by omega
  have n2 : (N : Int) ≤ 106751991167300 := by omega
  obtain ⟨R, hR⟩ : ∃ k : Nat, s.tmod 86400 = -(k : Int) := ⟨(-(s.tmod 86400)).toNat, by omega⟩
  have r3 : (R : Int) ≤ 86399 := by omega
  have r4 : 1 ≤ (R : Int) := by omega
  have v1 : Value.int .i64 (s.tdiv 86400) = .int .i64 (-(N : Int)) := by rw [hN]
  have v2 : Value.int .i64 (s.tmod 86400) = .int .i64 (-(R : Int)) := by rw [hR]
  clear hN hm ht hR
  go_enter Try.func40, Try.ntmps40
  go_wp2_with (go_at_call 52; refine (HO.out _ _ ?_ ?_ ?_).mono ?_; (omega); (omega); (omega); rintro e' w' ⟨rfl, rfl⟩)
  exact bodyPost_ret (results_row_tmp Try.results40 _ _ _ _ rfl (run_loadVar_row _ _ _ _ _ _ _ (heap_alloc_new _ _) Try.underlying73 rfl (by kernel_rfl))) rfl ⟨rfl, (Below.refl _ _).alloc (Nat.le_refl _) _⟩
set_option maxRecDepth 100000 in
set_option maxHeartbeats 2000000 in
theorem date_below0 {s : Int} (h : s < -62135596800) (hl : -9223372036854775808 ≤ s) (hm : s.tmod 86400 = 0) (w : World) : Calls Try.prog 40 #[.int .i64 s] w fun e w' => e = .returned (.tuple #[dateV 0 0 0 0, .bool false]) ∧ Below w.heap.size w w' := by
  have HO : Hid (∀ (x : Int) (W : World), -9223372036854775808 ≤ x → x ≤ 9223372036854775807 → (x < -719162 ∨ 2932897 ≤ x) → Calls Try.prog 52 #[.int .i64 x] W fun e w' => e = .returned (.tuple #[.int .i64 0, .int .i64 0, .int .i64 0, .bool false]) ∧ W = w') := fun x W h1 h2 h => of_none h1 h2 h W
  have ht := tdm s 86400 (by decide)
  obtain ⟨N, hN⟩ : ∃ k : Nat, s.tdiv 86400 = -(k : Int) := ⟨(-(s.tdiv 86400)).toNat, by omega⟩
  have n1 : 719163 ≤ (N : Int) := by omega
  have n2 : (N : Int) ≤ 106751991167300 := by omega
  have v1 : Value.int .i64 (s.tdiv 86400) = .int .i64 (-(N : Int)) := by rw [hN]
  have v2 : Value.int .i64 (s.tmod 86400) = .int .i64 (0) := by rw [hm]
  clear hN hm ht
  go_enter Try.func40, Try.ntmps40
  go_wp2_with (go_at_call 52; refine (HO.out _ _ ?_ ?_ ?_).mono ?_; (omega); (omega); (omega); rintro e' w' ⟨rfl, rfl⟩)
  exact bodyPost_ret (results_row_tmp Try.results40 _ _ _ _ rfl (run_loadVar_row _ _ _ _ _ _ _ (heap_alloc_new _ _) Try.underlying73 rfl (by kernel_rfl))) rfl ⟨rfl, (Below.refl _ _).alloc (Nat.le_refl _) _⟩
end Go.Proofs.Ytkcimbjgjamloaa

/- The reference's civil: Of out of range, the weekday, the date of a time. -/
import Derived.Test.YtkcimbjgjamloaaCivilR
namespace Go.Proofs.Ytkcimbjgjamloaa
open Go.RowKit Civ
theorem rof_none {n : Int} (hl : -9223372036854775808 ≤ n) (hh : n ≤ 9223372036854775807) (h : n < -719162 ∨ 2932897 ≤ n) (w : World) : Calls Try.prog 56 #[.int .i64 n] w fun e w' => e = .returned (.tuple #[dateV 0 0 0 0, .bool false]) ∧ Below w.heap.size w w' := by
  by_cases h1 : n < -719162
  · have q1 : decide (n < -719162) = true := dec_yes h1
    go_enter Try.func56, Try.ntmps56
    go_wp2_with fail
    exact bodyPost_ret (results_row_tmp Try.results56 _ _ _ _ rfl (run_loadVar_row _ _ _ _ _ _ _ (heap_alloc_new _ _) Try.underlying73 rfl (by kernel_rfl))) rfl ⟨rfl, (Below.refl _ _).alloc (Nat.le_refl _) _⟩
  · have q1 : decide (n < -719162) = false := dec_no h1
    have q2 : decide (2932896 < n) = true := dec_yes (by omega)
    clear h h1
    go_enter Try.func56, Try.ntmps56
    go_wp2_with fail
    exact bodyPost_ret (results_row_tmp Try.results56 _ _ _ _ rfl (run_loadVar_row _ _ _ _ _ _ _ (heap_alloc_new _ _) Try.underlying73 rfl (by kernel_rfl))) rfl ⟨rfl, (Below.refl _ _).alloc (Nat.le_refl _) _⟩
theorem rweekday_any (n : Int) (w : World) : Calls Try.prog 83 #[.int .i64 n] w fun e w' => e = .returned (.int .i64 (weekD n)) ∧ w = w' := by
  have ht := tdm n 7 (by decide)
  by_cases h0 : n.tmod 7 < 0
  · obtain ⟨k, hk⟩ : ∃ k : Nat, n.tmod 7 = -(k : Int) := ⟨(-(n.tmod 7)).toNat, by omega⟩
    have k1 : 1 ≤ (k : Int) := by omega
    have k2 : (k : Int) ≤ 6 := by omega
    have v1 : Value.int .i64 (n.tmod 7) = .int .i64 (-(k : Int)) := by rw [hk]
    have HE : Hid ((-(k : Int) + 7 + 4) % 7 = weekD n) := by show _ = _; unfold weekD; omega
    clear ht hk h0
    go_enter Try.func83, Try.ntmps83
    go_wp2_with fail
    go_ret
    exact ⟨congrArg (fun v => Ending.returned (Value.int .i64 v)) HE.out, rfl⟩
  · obtain ⟨k, hk⟩ : ∃ k : Nat, n.tmod 7 = (k : Int) := ⟨(n.tmod 7).toNat, by omega⟩
    have k2 : (k : Int) ≤ 6 := by omega
    have v1 : Value.int .i64 (n.tmod 7) = .int .i64 (k : Int) := by rw [hk]
    have HE : Hid (((k : Int) + 4) % 7 = weekD n) := by show _ = _; unfold weekD; omega
    clear ht hk h0
    go_enter Try.func83, Try.ntmps83
    go_wp2_with fail
    go_ret
    exact ⟨congrArg (fun v => Ending.returned (Value.int .i64 v)) HE.out, rfl⟩
theorem blk_date {W : World} {g : Nat} {t : TypeId} {z0 z1 z2 z3 z4 z5 : Value} (h : Blk W g #[z0, z1, z2, z3, z4, z5] t) (a b c d e f : Value) :
    Blk ((((((W.setCell ⟨g, 0, none⟩ a).setCell ⟨g, 1, none⟩ b).setCell ⟨g, 2, none⟩ c).setCell ⟨g, 3, none⟩ d).setCell ⟨g, 4, none⟩ e).setCell ⟨g, 5, none⟩ f) g #[a, b, c, d, e, f] t :=
  (((((h.set 0 a).set 1 b).set 2 c).set 3 d).set 4 e).set 5 f
theorem below_date {w W : World} {g : Nat} (h : Below w.heap.size w W) (hg : w.heap.size ≤ g) (a b c d e f : Value) :
    Below w.heap.size w ((((((W.setCell ⟨g, 0, none⟩ a).setCell ⟨g, 1, none⟩ b).setCell ⟨g, 2, none⟩ c).setCell ⟨g, 3, none⟩ d).setCell ⟨g, 4, none⟩ e).setCell ⟨g, 5, none⟩ f) :=
  (((((h.setCell hg a).setCell hg b).setCell hg c).setCell hg d).setCell hg e).setCell hg f
set_option maxRecDepth 100000 in
set_option maxHeartbeats 1000000 in
theorem rdate_late {s n y m d r : Int} (hd : IsDate n y m d) (hs : s = n * 86400 + r) (hr : 0 ≤ r) (hr2 : r < 86400) (h0 : 0 ≤ s) (w : World) : Calls Try.prog 47 #[.int .i64 s] w fun e w' => e = .returned (.tuple #[dateV y m d r, .bool true]) ∧ Below w.heap.size w w' := by
  obtain ⟨hn1, hn2⟩ := IsDate_range hd
  have HO : Hid (∀ (x : Int) (W : World), x = n → Calls Try.prog 56 #[.int .i64 x] W fun e w' => e = .returned (.tuple #[.agg #[.int .i64 y, .int .i64 m, .int .i64 d, .int .i64 0, .int .i64 0, .int .i64 0], .bool true]) ∧ Below W.heap.size W w') := fun x W e => by rw [e]; exact rof_any hd W
  clear hd
  obtain ⟨N, rfl⟩ : ∃ k : Nat, n = k := ⟨n.toNat, by omega⟩
  obtain ⟨R, rfl⟩ : ∃ k : Nat, r = k := ⟨r.toNat, by omega⟩
  have ht := tdm s 86400 (by decide)
  have v1 : Value.int .i64 (s / 86400) = .int .i64 ((N : Int)) := by rw [show s / 86400 = (N : Int) by omega]
  have v2 : Value.int .i64 (s % 86400) = .int .i64 ((R : Int)) := by rw [show s % 86400 = (R : Int) by omega]
  have s1 : -62135596800 ≤ s ∧ s ≤ 253402300799 := by omega
  obtain ⟨s1, s3⟩ := s1
  have n3 : (N : Int) ≤ 2932896 := by omega
  have r3 : (R : Int) ≤ 86399 := by omega
  have s2 : decide (s < 0) = false := dec_no (by omega)
  clear hs hr2 hn1 hn2 ht
  go_enter Try.func47, Try.ntmps47
  go_wp2_with (go_at_call 56; refine (HO.out _ _ ?_).mono ?_; (omega); rintro e' w' ⟨rfl, hb⟩; have hK := (Blk.new w #[.int .i64 0, .int .i64 0, .int .i64 0, .int .i64 0, .int .i64 0, .int .i64 0] 73).call hb; have hbw : Below w.heap.size w w' := ((Below.refl _ _).alloc (Nat.le_refl _) _).trans (hb.mono (by rw [World.alloc]; simp)); have HK := Lib.hid hK; have HB := Lib.hid hbw; clear hb hK hbw; have c0 : ∀ ob, (w'.alloc ob).cell? ⟨w.heap.size, 0, none⟩ = some (.int .i64 0) := fun ob => (HK.out.alloc ob).cell 0; have f0 : ∀ ob, (w'.alloc ob).frozen? ⟨w.heap.size, 0, none⟩ = false := fun ob => (HK.out.alloc ob).froz 0; have c1 : ∀ ob, (w'.alloc ob).cell? ⟨w.heap.size, 1, none⟩ = some (.int .i64 0) := fun ob => (HK.out.alloc ob).cell 1; have f1 : ∀ ob, (w'.alloc ob).frozen? ⟨w.heap.size, 1, none⟩ = false := fun ob => (HK.out.alloc ob).froz 1; have c2 : ∀ ob, (w'.alloc ob).cell? ⟨w.heap.size, 2, none⟩ = some (.int .i64 0) := fun ob => (HK.out.alloc ob).cell 2; have f2 : ∀ ob, (w'.alloc ob).frozen? ⟨w.heap.size, 2, none⟩ = false := fun ob => (HK.out.alloc ob).froz 2; have c3 : ∀ ob, (w'.alloc ob).cell? ⟨w.heap.size, 3, none⟩ = some (.int .i64 0) := fun ob => (HK.out.alloc ob).cell 3; have f3 : ∀ ob, (w'.alloc ob).frozen? ⟨w.heap.size, 3, none⟩ = false := fun ob => (HK.out.alloc ob).froz 3; have c4 : ∀ ob, (w'.alloc ob).cell? ⟨w.heap.size, 4, none⟩ = some (.int .i64 0) := fun ob => (HK.out.alloc ob).cell 4; have f4 : ∀ ob, (w'.alloc ob).frozen? ⟨w.heap.size, 4, none⟩ = false := fun ob => (HK.out.alloc ob).froz 4; have c5 : ∀ ob, (w'.alloc ob).cell? ⟨w.heap.size, 5, none⟩ = some (.int .i64 0) := fun ob => (HK.out.alloc ob).cell 5; have f5 : ∀ ob, (w'.alloc ob).frozen? ⟨w.heap.size, 5, none⟩ = false := fun ob => (HK.out.alloc ob).froz 5)
  exact bodyPost_ret (results_row_tmp Try.results47 _ _ _ _ rfl (run_loadVar_row _ _ _ _ _ _ _ (blk_date (HK.out.alloc _) _ _ _ _ _ _) Try.underlying73 rfl (by kernel_rfl))) rfl ⟨congrArg (fun z => Ending.returned (Value.tuple #[Value.agg #[.int .i64 y, .int .i64 m, .int .i64 d, .int .i64 (((R : Int)) / 3600), .int .i64 z, .int .i64 (((R : Int)) % 60)], .bool true])) (show ((R : Int)) % 3600 / 60 = ((R : Int)) / 60 % 60 by omega), below_date (HB.out.alloc HB.out.size _) (Nat.le_refl _) _ _ _ _ _ _⟩
set_option maxRecDepth 100000 in
set_option maxHeartbeats 1000000 in
theorem rdate_early {s n y m d r : Int} (hd : IsDate n y m d) (hs : s = n * 86400 + r) (hr : 1 ≤ r) (hr2 : r < 86400) (h0 : s < 0) (w : World) : Calls Try.prog 47 #[.int .i64 s] w fun e w' => e = .returned (.tuple #[dateV y m d r, .bool true]) ∧ Below w.heap.size w w' := by
  obtain ⟨hn1, hn2⟩ := IsDate_range hd
  have HO : Hid (∀ (x : Int) (W : World), x = n → Calls Try.prog 56 #[.int .i64 x] W fun e w' => e = .returned (.tuple #[.agg #[.int .i64 y, .int .i64 m, .int .i64 d, .int .i64 0, .int .i64 0, .int .i64 0], .bool true]) ∧ Below W.heap.size W w') := fun x W e => by rw [e]; exact rof_any hd W
  clear hd
  obtain ⟨N, rfl⟩ : ∃ k : Nat, n = -(k : Int) := ⟨(-n).toNat, by omega⟩
  obtain ⟨R, rfl⟩ : ∃ k : Nat, r = k := ⟨r.toNat, by omega⟩
  have ht := tdm s 86400 (by decide)
  have v1 : Value.int .i64 (s.tdiv 86400) = .int .i64 (-(N : Int) + 1) := by rw [show s.tdiv 86400 = -(N : Int) + 1 by omega]
  have v2 : Value.int .i64 (s.tmod 86400) = .int .i64 ((R : Int) - 86400) := by rw [show s.tmod 86400 = (R : Int) - 86400 by omega]
  have s1 : -62135596800 ≤ s ∧ s ≤ 253402300799 := by omega
  obtain ⟨s1, s3⟩ := s1
  have n3 : (N : Int) ≤ 2932896 := by omega
  have r3 : (R : Int) ≤ 86399 := by omega
  have e1 : ((R : Int) - 86400 == 0) = false := beq_no (by omega)
  have e2 : ((R : Int) - 86400 != 0) = true := bne_yes (by omega)
  have e3 : decide ((R : Int) - 86400 = 0) = false := dec_no (by omega)
  have s2 : decide (s < 0) = true := dec_yes (by omega)
  clear hs hr2 hn1 hn2 ht
  go_enter Try.func47, Try.ntmps47
  go_wp2_with (go_at_call 56; refine (HO.out _ _ ?_).mono ?_; (omega); rintro e' w' ⟨rfl, hb⟩; have hK := (Blk.new w #[.int .i64 0, .int .i64 0, .int .i64 0, .int .i64 0, .int .i64 0, .int .i64 0] 73).call hb; have hbw : Below w.heap.size w w' := ((Below.refl _ _).alloc (Nat.le_refl _) _).trans (hb.mono (by rw [World.alloc]; simp)); have HK := Lib.hid hK; have HB := Lib.hid hbw; clear hb hK hbw; have c0 : ∀ ob, (w'.alloc ob).cell? ⟨w.heap.size, 0, none⟩ = some (.int .i64 0) := fun ob => (HK.out.alloc ob).cell 0; have f0 : ∀ ob, (w'.alloc ob).frozen? ⟨w.heap.size, 0, none⟩ = false := fun ob => (HK.out.alloc ob).froz 0; have c1 : ∀ ob, (w'.alloc ob).cell? ⟨w.heap.size, 1, none⟩ = some (.int .i64 0) := fun ob => (HK.out.alloc ob).cell 1; have f1 : ∀ ob, (w'.alloc ob).frozen? ⟨w.heap.size, 1, none⟩ = false := fun ob => (HK.out.alloc ob).froz 1; have c2 : ∀ ob, (w'.alloc ob).cell? ⟨w.heap.size, 2, none⟩ = some (.int .i64 0) := fun ob => (HK.out.alloc ob).cell 2; have f2 : ∀ ob, (w'.alloc ob).frozen? ⟨w.heap.size, 2, none⟩ = false := fun ob => (HK.out.alloc ob).froz 2; have c3 : ∀ ob, (w'.alloc ob).cell? ⟨w.heap.size, 3, none⟩ = some (.int .i64 0) := fun ob => (HK.out.alloc ob).cell 3; have f3 : ∀ ob, (w'.alloc ob).frozen? ⟨w.heap.size, 3, none⟩ = false := fun ob => (HK.out.alloc ob).froz 3; have c4 : ∀ ob, (w'.alloc ob).cell? ⟨w.heap.size, 4, none⟩ = some (.int .i64 0) := fun ob => (HK.out.alloc ob).cell 4; have f4 : ∀ ob, (w'.alloc ob).frozen? ⟨w.heap.size, 4, none⟩ = false := fun ob => (HK.out.alloc ob).froz 4; have c5 : ∀ ob, (w'.alloc ob).cell? ⟨w.heap.size, 5, none⟩ = some (.int .i64 0) := fun ob => (HK.out.alloc ob).cell 5; have f5 : ∀ ob, (w'.alloc ob).frozen? ⟨w.heap.size, 5, none⟩ = false := fun ob => (HK.out.alloc ob).froz 5)
  exact bodyPost_ret (results_row_tmp Try.results47 _ _ _ _ rfl (run_loadVar_row _ _ _ _ _ _ _ (blk_date (HK.out.alloc _) _ _ _ _ _ _) Try.underlying73 rfl (by kernel_rfl))) rfl ⟨congrArg (fun z => Ending.returned (Value.tuple #[Value.agg #[.int .i64 y, .int .i64 m, .int .i64 d, .int .i64 (((R : Int)) / 3600), .int .i64 z, .int .i64 (((R : Int)) % 60)], .bool true])) (show ((R : Int)) % 3600 / 60 = ((R : Int)) / 60 % 60 by omega), below_date (HB.out.alloc HB.out.size _) (Nat.le_refl _) _ _ _ _ _ _⟩
set_option maxRecDepth 100000 in
set_option maxHeartbeats 1000000 in
theorem rdate_exact {s n y m d r : Int} (hd : IsDate n y m d) (hs : s = n * 86400 + r) (hr : r = 0) (hr2 : r < 86400) (h0 : s < 0) (w : World) : Calls Try.prog 47 #[.int .i64 s] w fun e w' => e = .returned (.tuple #[dateV y m d r, .bool true]) ∧ Below w.heap.size w w' := by
  obtain ⟨hn1, hn2⟩ := IsDate_range hd
  have HO : Hid (∀ (x : Int) (W : World), x = n → Calls Try.prog 56 #[.int .i64 x] W fun e w' => e = .returned (.tuple #[.agg #[.int .i64 y, .int .i64 m, .int .i64 d, .int .i64 0, .int .i64 0, .int .i64 0], .bool true]) ∧ Below W.heap.size W w') := fun x W e => by rw [e]; exact rof_any hd W
  clear hd
  obtain ⟨N, rfl⟩ : ∃ k : Nat, n = -(k : Int) := ⟨(-n).toNat, by omega⟩
  subst hr
  have ht := tdm s 86400 (by decide)
  have v1 : Value.int .i64 (s.tdiv 86400) = .int .i64 (-(N : Int)) := by rw [show s.tdiv 86400 = -(N : Int) by omega]
  have v2 : Value.int .i64 (s.tmod 86400) = .int .i64 (0) := by rw [show s.tmod 86400 = 0 by omega]
  have s1 : -62135596800 ≤ s ∧ s ≤ 253402300799 := by omega
  obtain ⟨s1, s3⟩ := s1
  have n3 : (N : Int) ≤ 2932896 := by omega
  have r3 : s ≤ -1 := by omega
  have s2 : decide (s < 0) = true := dec_yes (by omega)
  clear hs hr2 hn1 hn2 ht
  go_enter Try.func47, Try.ntmps47
  go_wp2_with (go_at_call 56; refine (HO.out _ _ ?_).mono ?_; (omega); rintro e' w' ⟨rfl, hb⟩; have hK := (Blk.new w #[.int .i64 0, .int .i64 0, .int .i64 0, .int .i64 0, .int .i64 0, .int .i64 0] 73).call hb; have hbw : Below w.heap.size w w' := ((Below.refl _ _).alloc (Nat.le_refl _) _).trans (hb.mono (by rw [World.alloc]; simp)); have HK := Lib.hid hK; have HB := Lib.hid hbw; clear hb hK hbw; have c0 : ∀ ob, (w'.alloc ob).cell? ⟨w.heap.size, 0, none⟩ = some (.int .i64 0) := fun ob => (HK.out.alloc ob).cell 0; have f0 : ∀ ob, (w'.alloc ob).frozen? ⟨w.heap.size, 0, none⟩ = false := fun ob => (HK.out.alloc ob).froz 0; have c1 : ∀ ob, (w'.alloc ob).cell? ⟨w.heap.size, 1, none⟩ = some (.int .i64 0) := fun ob => (HK.out.alloc ob).cell 1; have f1 : ∀ ob, (w'.alloc ob).frozen? ⟨w.heap.size, 1, none⟩ = false := fun ob => (HK.out.alloc ob).froz 1; have c2 : ∀ ob, (w'.alloc ob).cell? ⟨w.heap.size, 2, none⟩ = some (.int .i64 0) := fun ob => (HK.out.alloc ob).cell 2; have f2 : ∀ ob, (w'.alloc ob).frozen? ⟨w.heap.size, 2, none⟩ = false := fun ob => (HK.out.alloc ob).froz 2; have c3 : ∀ ob, (w'.alloc ob).cell? ⟨w.heap.size, 3, none⟩ = some (.int .i64 0) := fun ob => (HK.out.alloc ob).cell 3; have f3 : ∀ ob, (w'.alloc ob).frozen? ⟨w.heap.size, 3, none⟩ = false := fun ob => (HK.out.alloc ob).froz 3; have c4 : ∀ ob, (w'.alloc ob).cell? ⟨w.heap.size, 4, none⟩ = some (.int .i64 0) := fun ob => (HK.out.alloc ob).cell 4; have f4 : ∀ ob, (w'.alloc ob).frozen? ⟨w.heap.size, 4, none⟩ = false := fun ob => (HK.out.alloc ob).froz 4; have c5 : ∀ ob, (w'.alloc ob).cell? ⟨w.heap.size, 5, none⟩ = some (.int .i64 0) := fun ob => (HK.out.alloc ob).cell 5; have f5 : ∀ ob, (w'.alloc ob).frozen? ⟨w.heap.size, 5, none⟩ = false := fun ob => (HK.out.alloc ob).froz 5)
  exact bodyPost_ret (results_row_tmp Try.results47 _ _ _ _ rfl (run_loadVar_row _ _ _ _ _ _ _ (blk_date (HK.out.alloc _) _ _ _ _ _ _) Try.underlying73 rfl (by kernel_rfl))) rfl ⟨rfl, below_date (HB.out.alloc HB.out.size _) (Nat.le_refl _) _ _ _ _ _ _⟩
set_option maxRecDepth 100000 in
set_option maxHeartbeats 1000000 in
theorem rdate_above {s : Int} (h : 253402300800 ≤ s) (hh : s ≤ 9223372036854775807) (w : World) : Calls Try.prog 47 #[.int .i64 s] w fun e w' => e = .returned (.tuple #[dateV 0 0 0 0, .bool false]) ∧ Below w.heap.size w w' := by
  have HO : Hid (∀ (x : Int) (W : World), -9223372036854775808 ≤ x → x ≤ 9223372036854775807 → (x < -719162 ∨ 2932897 ≤ x) → Calls Try.prog 56 #[.int .i64 x] W fun e w' => e = .returned (.tuple #[.agg #[.int .i64 0, .int .i64 0, .int .i64 0, .int .i64 0, .int .i64 0, .int .i64 0], .bool false]) ∧ Below W.heap.size W w') := fun x W h1 h2 h => rof_none h1 h2 h W
  obtain ⟨N, hN⟩ : ∃ k : Nat, s / 86400 = k := ⟨(s / 86400).toNat, by omega⟩
  have n1 : 2932897 ≤ (N : Int) := by omega
  have n2 : (N : Int) ≤ 106751991167300 := by omega
  obtain ⟨R, hR⟩ : ∃ k : Nat, s % 86400 = k := ⟨(s % 86400).toNat, by omega⟩
  have r3 : (R : Int) ≤ 86399 := by omega
  have s1 : 0 ≤ s := by omega
  have v1 : Value.int .i64 (s / 86400) = .int .i64 (N : Int) := by rw [hN]
  have v2 : Value.int .i64 (s % 86400) = .int .i64 (R : Int) := by rw [hR]
  clear hN hR
  have s2 : decide (s < 0) = false := dec_no (by omega)
  go_enter Try.func47, Try.ntmps47
  go_wp2_with (go_at_call 56; refine (HO.out _ _ ?_ ?_ ?_).mono ?_; (omega); (omega); (omega); rintro e' w' ⟨rfl, hb⟩; have hK := (Blk.new w #[.int .i64 0, .int .i64 0, .int .i64 0, .int .i64 0, .int .i64 0, .int .i64 0] 73).call hb; have hbw : Below w.heap.size w w' := ((Below.refl _ _).alloc (Nat.le_refl _) _).trans (hb.mono (by rw [World.alloc]; simp)); have HK := Lib.hid hK; have HB := Lib.hid hbw; clear hb hK hbw; have c0 : ∀ ob, (w'.alloc ob).cell? ⟨w.heap.size, 0, none⟩ = some (.int .i64 0) := fun ob => (HK.out.alloc ob).cell 0; have f0 : ∀ ob, (w'.alloc ob).frozen? ⟨w.heap.size, 0, none⟩ = false := fun ob => (HK.out.alloc ob).froz 0; have c1 : ∀ ob, (w'.alloc ob).cell? ⟨w.heap.size, 1, none⟩ = some (.int .i64 0) := fun ob => (HK.out.alloc ob).cell 1; have f1 : ∀ ob, (w'.alloc ob).frozen? ⟨w.heap.size, 1, none⟩ = false := fun ob => (HK.out.alloc ob).froz 1; have c2 : ∀ ob, (w'.alloc ob).cell? ⟨w.heap.size, 2, none⟩ = some (.int .i64 0) := fun ob => (HK.out.alloc ob).cell 2; have f2 : ∀ ob, (w'.alloc ob).frozen? ⟨w.heap.size, 2, none⟩ = false := fun ob => (HK.out.alloc ob).froz 2; have c3 : ∀ ob, (w'.alloc ob).cell? ⟨w.heap.size, 3, none⟩ = some (.int .i64 0) := fun ob => (HK.out.alloc ob).cell 3; have f3 : ∀ ob, (w'.alloc ob).frozen? ⟨w.heap.size, 3, none⟩ = false := fun ob => (HK.out.alloc ob).froz 3; have c4 : ∀ ob, (w'.alloc ob).cell? ⟨w.heap.size, 4, none⟩ = some (.int .i64 0) := fun ob => (HK.out.alloc ob).cell 4; have f4 : ∀ ob, (w'.alloc ob).frozen? ⟨w.heap.size, 4, none⟩ = false := fun ob => (HK.out.alloc ob).froz 4; have c5 : ∀ ob, (w'.alloc ob).cell? ⟨w.heap.size, 5, none⟩ = some (.int .i64 0) := fun ob => (HK.out.alloc ob).cell 5; have f5 : ∀ ob, (w'.alloc ob).frozen? ⟨w.heap.size, 5, none⟩ = false := fun ob => (HK.out.alloc ob).froz 5)
  exact bodyPost_ret (results_row_tmp Try.results47 _ _ _ _ rfl (run_loadVar_row _ _ _ _ _ _ _ (blk_date (HK.out.alloc _) _ _ _ _ _ _) Try.underlying73 rfl (by kernel_rfl))) rfl ⟨rfl, below_date (HB.out.alloc HB.out.size _) (Nat.le_refl _) _ _ _ _ _ _⟩
set_option maxRecDepth 100000 in
set_option maxHeartbeats 1000000 in
theorem rdate_below1 {s : Int} (h : s < -62135596800) (hl : -9223372036854775808 ≤ s) (hm : s.tmod 86400 ≠ 0) (w : World) : Calls Try.prog 47 #[.int .i64 s] w fun e w' => e = .returned (.tuple #[dateV 0 0 0 0, .bool false]) ∧ Below w.heap.size w w' := by
  have HO : Hid (∀ (x : Int) (W : World), -9223372036854775808 ≤ x → x ≤ 9223372036854775807 → (x < -719162 ∨ 2932897 ≤ x) → Calls Try.prog 56 #[.int .i64 x] W fun e w' => e = .returned (.tuple #[.agg #[.int .i64 0, .int .i64 0, .int .i64 0, .int .i64 0, .int .i64 0, .int .i64 0], .bool false]) ∧ Below W.heap.size W w') := fun x W h1 h2 h => rof_none h1 h2 h W
  have ht := tdm s 86400 (by decide)
  obtain ⟨N, hN⟩ : ∃ k : Nat, s.tdiv 86400 = -(k : Int) := ⟨(-(s.tdiv 86400)).toNat, by omega⟩
  have n1 : 719162 ≤ (N : Int) := by omega
  have n2 : (N : Int) ≤ 106751991167300 := by omega
  obtain ⟨R, hR⟩ : ∃ k : Nat, s.tmod 86400 = -(k : Int) := ⟨(-(s.tmod 86400)).toNat, by omega⟩
  have r3 : (R : Int) ≤ 86399 := by omega
  have r4 : 1 ≤ (R : Int) := by omega
  have v1 : Value.int .i64 (s.tdiv 86400) = .int .i64 (-(N : Int)) := by rw [hN]
  have v2 : Value.int .i64 (s.tmod 86400) = .int .i64 (-(R : Int)) := by rw [hR]
  have e1 : (-(R : Int) == 0) = false := beq_no (by omega)
  have e2 : (-(R : Int) != 0) = true := bne_yes (by omega)
  have e3 : decide (-(R : Int) = 0) = false := dec_no (by omega)
  clear hN hm ht hR
  have s2 : decide (s < 0) = true := dec_yes (by omega)
  go_enter Try.func47, Try.ntmps47
  go_wp2_with (go_at_call 56; refine (HO.out _ _ ?_ ?_ ?_).mono ?_; (omega); (omega); (omega); rintro e' w' ⟨rfl, hb⟩; have hK := (Blk.new w #[.int .i64 0, .int .i64 0, .int .i64 0, .int .i64 0, .int .i64 0, .int .i64 0] 73).call hb; have hbw : Below w.heap.size w w' := ((Below.refl _ _).alloc (Nat.le_refl _) _).trans (hb.mono (by rw [World.alloc]; simp)); have HK := Lib.hid hK; have HB := Lib.hid hbw; clear hb hK hbw; have c0 : ∀ ob, (w'.alloc ob).cell? ⟨w.heap.size, 0, none⟩ = some (.int .i64 0) := fun ob => (HK.out.alloc ob).cell 0; have f0 : ∀ ob, (w'.alloc ob).frozen? ⟨w.heap.size, 0, none⟩ = false := fun ob => (HK.out.alloc ob).froz 0; have c1 : ∀ ob, (w'.alloc ob).cell? ⟨w.heap.size, 1, none⟩ = some (.int .i64 0) := fun ob => (HK.out.alloc ob).cell 1; have f1 : ∀ ob, (w'.alloc ob).frozen? ⟨w.heap.size, 1, none⟩ = false := fun ob => (HK.out.alloc ob).froz 1; have c2 : ∀ ob, (w'.alloc ob).cell? ⟨w.heap.size, 2, none⟩ = some (.int .i64 0) := fun ob => (HK.out.alloc ob).cell 2; have f2 : ∀ ob, (w'.alloc ob).frozen? ⟨w.heap.size, 2, none⟩ = false := fun ob => (HK.out.alloc ob).froz 2; have c3 : ∀ ob, (w'.alloc ob).cell? ⟨w.heap.size, 3, none⟩ = some (.int .i64 0) := fun ob => (HK.out.alloc ob).cell 3; have f3 : ∀ ob, (w'.alloc ob).frozen? ⟨w.heap.size, 3, none⟩ = false := fun ob => (HK.out.alloc ob).froz 3; have c4 : ∀ ob, (w'.alloc ob).cell? ⟨w.heap.size, 4, none⟩ = some (.int .i64 0) := fun ob => (HK.out.alloc ob).cell 4; have f4 : ∀ ob, (w'.alloc ob).frozen? ⟨w.heap.size, 4, none⟩ = false := fun ob => (HK.out.alloc ob).froz 4; have c5 : ∀ ob, (w'.alloc ob).cell? ⟨w.heap.size, 5, none⟩ = some (.int .i64 0) := fun ob => (HK.out.alloc ob).cell 5; have f5 : ∀ ob, (w'.alloc ob).frozen? ⟨w.heap.size, 5, none⟩ = false := fun ob => (HK.out.alloc ob).froz 5)
  exact bodyPost_ret (results_row_tmp Try.results47 _ _ _ _ rfl (run_loadVar_row _ _ _ _ _ _ _ (blk_date (HK.out.alloc _) _ _ _ _ _ _) Try.underlying73 rfl (by kernel_rfl))) rfl ⟨rfl, below_date (HB.out.alloc HB.out.size _) (Nat.le_refl _) _ _ _ _ _ _⟩
set_option maxRecDepth 100000 in
set_option maxHeartbeats 1000000 in
theorem rdate_below0 {s : Int} (h : s < -62135596800) (hl : -9223372036854775808 ≤ s) (hm : s.tmod 86400 = 0) (w : World) : Calls Try.prog 47 #[.int .i64 s] w fun e w' => e = .returned (.tuple #[dateV 0 0 0 0, .bool false]) ∧ Below w.heap.size w w' := by
  have HO : Hid (∀ (x : Int) (W : World), -9223372036854775808 ≤ x → x ≤ 9223372036854775807 → (x < -719162 ∨ 2932897 ≤ x) → Calls Try.prog 56 #[.int .i64 x] W fun e w' => e = .returned (.tuple #[.agg #[.int .i64 0, .int .i64 0, .int .i64 0, .int .i64 0, .int .i64 0, .int .i64 0], .bool false]) ∧ Below W.heap.size W w') := fun x W h1 h2 h => rof_none h1 h2 h W
  have ht := tdm s 86400 (by decide)
  obtain ⟨N, hN⟩ : ∃ k : Nat, s.tdiv 86400 = -(k : Int) := ⟨(-(s.tdiv 86400)).toNat, by omega⟩
  have n1 : 719163 ≤ (N : Int) := by omega
  have n2 : (N : Int) ≤ 106751991167300 := by omega
  have v1 : Value.int .i64 (s.tdiv 86400) = .int .i64 (-(N : Int)) := by rw [hN]
  have v2 : Value.int .i64 (s.tmod 86400) = .int .i64 0 := by rw [hm]
  clear hN hm ht
  have s2 : decide (s < 0) = true := dec_yes (by omega)
  go_enter Try.func47, Try.ntmps47
  go_wp2_with (go_at_call 56; refine (HO.out _ _ ?_ ?_ ?_).mono ?_; (omega); (omega); (omega); rintro e' w' ⟨rfl, hb⟩; have hK := (Blk.new w #[.int .i64 0, .int .i64 0, .int .i64 0, .int .i64 0, .int .i64 0, .int .i64 0] 73).call hb; have hbw : Below w.heap.size w w' := ((Below.refl _ _).alloc (Nat.le_refl _) _).trans (hb.mono (by rw [World.alloc]; simp)); have HK := Lib.hid hK; have HB := Lib.hid hbw; clear hb hK hbw; have c0 : ∀ ob, (w'.alloc ob).cell? ⟨w.heap.size, 0, none⟩ = some (.int .i64 0) := fun ob => (HK.out.alloc ob).cell 0; have f0 : ∀ ob, (w'.alloc ob).frozen? ⟨w.heap.size, 0, none⟩ = false := fun ob => (HK.out.alloc ob).froz 0; have c1 : ∀ ob, (w'.alloc ob).cell? ⟨w.heap.size, 1, none⟩ = some (.int .i64 0) := fun ob => (HK.out.alloc ob).cell 1; have f1 : ∀ ob, (w'.alloc ob).frozen? ⟨w.heap.size, 1, none⟩ = false := fun ob => (HK.out.alloc ob).froz 1; have c2 : ∀ ob, (w'.alloc ob).cell? ⟨w.heap.size, 2, none⟩ = some (.int .i64 0) := fun ob => (HK.out.alloc ob).cell 2; have f2 : ∀ ob, (w'.alloc ob).frozen? ⟨w.heap.size, 2, none⟩ = false := fun ob => (HK.out.alloc ob).froz 2; have c3 : ∀ ob, (w'.alloc ob).cell? ⟨w.heap.size, 3, none⟩ = some (.int .i64 0) := fun ob => (HK.out.alloc ob).cell 3; have f3 : ∀ ob, (w'.alloc ob).frozen? ⟨w.heap.size, 3, none⟩ = false := fun ob => (HK.out.alloc ob).froz 3; have c4 : ∀ ob, (w'.alloc ob).cell? ⟨w.heap.size, 4, none⟩ = some (.int .i64 0) := fun ob => (HK.out.alloc ob).cell 4; have f4 : ∀ ob, (w'.alloc ob).frozen? ⟨w.heap.size, 4, none⟩ = false := fun ob => (HK.out.alloc ob).froz 4; have c5 : ∀ ob, (w'.alloc ob).cell? ⟨w.heap.size, 5, none⟩ = some (.int .i64 0) := fun ob => (HK.out.alloc ob).cell 5; have f5 : ∀ ob, (w'.alloc ob).frozen? ⟨w.heap.size, 5, none⟩ = false := fun ob => (HK.out.alloc ob).froz 5)
  exact bodyPost_ret (results_row_tmp Try.results47 _ _ _ _ rfl (run_loadVar_row _ _ _ _ _ _ _ (blk_date (HK.out.alloc _) _ _ _ _ _ _) Try.underlying73 rfl (by kernel_rfl))) rfl ⟨rfl, below_date (HB.out.alloc HB.out.size _) (Nat.le_refl _) _ _ _ _ _ _⟩
end Go.Proofs.Ytkcimbjgjamloaa

/- refusal.Status and the reference's: the status of any error on any side. -/
import Derived.Test.YtkcimbjgjamloaaCivilD
namespace Go.Proofs.Ytkcimbjgjamloaa
open Go.RowKit
/-- What an asker's error comes to. -/
def errStat (e : Int) : Int := if e = 21 then 408 else if e = 20 then 413 else if e = 18 then 417 else if e = 4 then 431 else if e = 10 then 501 else if e = 15 then 501 else if e = 9 then 505 else if e = 17 then 508 else 400
/-- The status of an error on a side. -/
def statB (side e : Int) : Int := if side = 1 then errStat e else if e = 21 then 504 else 502
theorem rrows_any (w : World) : Calls Try.prog 26 #[] w fun e w' => e = .returned (.agg #[.int .i64 21, .int .i64 408, .int .i64 20, .int .i64 413, .int .i64 18, .int .i64 417, .int .i64 4, .int .i64 431, .int .i64 10, .int .i64 501, .int .i64 15, .int .i64 501, .int .i64 9, .int .i64 505, .int .i64 17, .int .i64 508]) ∧ Below w.heap.size w w' := by
  go_enter Try.func26, Try.ntmps26
  go_wp2_with fail
  exact bodyPost_ret (results_cell_row Try.results26 _ _ _ _ _ _ _ rfl (heap_alloc_new _ _) Try.underlying59 rfl (by kernel_rfl)) rfl ⟨rfl, (Below.refl _ _).alloc (Nat.le_refl _) _⟩
set_option maxRecDepth 100000 in
set_option maxHeartbeats 2000000 in
theorem stat_asker (e : Int) (w : World) : Calls Try.prog 6 #[.int .i64 1, .int .i64 e] w fun x w' => x = .returned (.int .i64 (errStat e)) ∧ Below w.heap.size w w' := by
  go_enter Try.func6, Try.ntmps6
  go_wp2_with (go_at_call 26; refine (rrows_any _).mono ?_; rintro e' w' ⟨rfl, hb⟩; have HB := Lib.hid hb; clear hb)
  go_loopw [18] (fun iv wr => ∃ k : Nat, iv = .int .i64 k ∧ k ≤ 8 ∧ (k = 8 → errStat e = 400) ∧ (∀ j, j < k → ([21, 20, 18, 4, 10, 15, 9, 17] : List Int)[j]? ≠ some e) ∧ Below w.heap.size w wr) (fun iv _ => 8 - (intOf iv).toNat)
  case atStart => exact ⟨0, rfl, by omega, by omega, fun j h => by omega, HB.out⟩
  case round =>
    obtain ⟨k, rfl, hk, h8, hno, hbel⟩ := hrel
    have HL := Lib.hid hbel
    have HN := Lib.hid hno
    have H8 := Lib.hid h8
    clear HB hbel hno h8
    have hks : k = 0 ∨ k = 1 ∨ k = 2 ∨ k = 3 ∨ k = 4 ∨ k = 5 ∨ k = 6 ∨ k = 7 ∨ k = 8 := by omega
    clear hk
    rcases hks with rfl | rfl | rfl | rfl | rfl | rfl | rfl | rfl | rfl
    · have hix : ∀ W : World, (Instr.index 59 (.agg #[.int .i64 21, .int .i64 408, .int .i64 20, .int .i64 413, .int .i64 18, .int .i64 417, .int .i64 4, .int .i64 431, .int .i64 10, .int .i64 501, .int .i64 15, .int .i64 501, .int .i64 9, .int .i64 505, .int .i64 17, .int .i64 508]) (.int .i64 0)).run Try.prog W = .ok (.agg #[.int .i64 21, .int .i64 408]) W := fun W => by kernel_rfl
      by_cases he : e = 21
      · have HV : Hid (errStat e = 408) := by show errStat e = 408; subst he; decide
        clear H8
        subst he
        go_wp2_with fail
        go_ret
        rw [HV.out]
        exact ⟨rfl, HL.out.alloc HL.out.size _⟩
      · have q1 : (21 == e) = false := beq_no (fun h => he h.symm)
        have q2 : (e == 21) = false := beq_no he
        have HX : Hid (∀ j, j < 1 → ([21, 20, 18, 4, 10, 15, 9, 17] : List Int)[j]? ≠ some e) := by
          show ∀ j, _ → _
          intro j hj
          by_cases hjk : j < 0
          · exact HN.out j hjk
          · obtain rfl : j = 0 := by omega
            exact fun h => he (Option.some.inj h).symm
        have HY : Hid (1 = 8 → errStat e = 400) := by
          show _ → _
          intro h8
          omega
        clear  H8
        go_wp2_with fail
        go_roundw
        case rel => exact ⟨1, rfl, by omega, HY.out, HX.out, HL.out.alloc HL.out.size _⟩
        case measure => simp [intOf]
    · have hix : ∀ W : World, (Instr.index 59 (.agg #[.int .i64 21, .int .i64 408, .int .i64 20, .int .i64 413, .int .i64 18, .int .i64 417, .int .i64 4, .int .i64 431, .int .i64 10, .int .i64 501, .int .i64 15, .int .i64 501, .int .i64 9, .int .i64 505, .int .i64 17, .int .i64 508]) (.int .i64 1)).run Try.prog W = .ok (.agg #[.int .i64 20, .int .i64 413]) W := fun W => by kernel_rfl
      have n0 : e ≠ 21 := fun h => HN.out 0 (by omega) (by rw [h]; rfl)
      by_cases he : e = 20
      · have HV : Hid (errStat e = 413) := by show errStat e = 413; subst he; decide
        clear n0
        subst he
        go_wp2_with fail
        go_ret
        rw [HV.out]
        exact ⟨rfl, HL.out.alloc HL.out.size _⟩
      · have q1 : (20 == e) = false := beq_no (fun h => he h.symm)
        have q2 : (e == 20) = false := beq_no he
        have HX : Hid (∀ j, j < 2 → ([21, 20, 18, 4, 10, 15, 9, 17] : List Int)[j]? ≠ some e) := by
          show ∀ j, _ → _
          intro j hj
          by_cases hjk : j < 1
          · exact HN.out j hjk
          · obtain rfl : j = 1 := by omega
            exact fun h => he (Option.some.inj h).symm
        have HY : Hid (2 = 8 → errStat e = 400) := by
          show _ → _
          intro h8
          omega
        clear n0 H8
        go_wp2_with fail
        go_roundw
        case rel => exact ⟨2, rfl, by omega, HY.out, HX.out, HL.out.alloc HL.out.size _⟩
        case measure => simp [intOf]
    · have hix : ∀ W : World, (Instr.index 59 (.agg #[.int .i64 21, .int .i64 408, .int .i64 20, .int .i64 413, .int .i64 18, .int .i64 417, .int .i64 4, .int .i64 431, .int .i64 10, .int .i64 501, .int .i64 15, .int .i64 501, .int .i64 9, .int .i64 505, .int .i64 17, .int .i64 508]) (.int .i64 2)).run Try.prog W = .ok (.agg #[.int .i64 18, .int .i64 417]) W := fun W => by kernel_rfl
      have n0 : e ≠ 21 := fun h => HN.out 0 (by omega) (by rw [h]; rfl)
      have n1 : e ≠ 20 := fun h => HN.out 1 (by omega) (by rw [h]; rfl)
      by_cases he : e = 18
      · have HV : Hid (errStat e = 417) := by show errStat e = 417; subst he; decide
        clear n0 n1
        subst he
        go_wp2_with fail
        go_ret
        rw [HV.out]
        exact ⟨rfl, HL.out.alloc HL.out.size _⟩
      · have q1 : (18 == e) = false := beq_no (fun h => he h.symm)
        have q2 : (e == 18) = false := beq_no he
        have HX : Hid (∀ j, j < 3 → ([21, 20, 18, 4, 10, 15, 9, 17] : List Int)[j]? ≠ some e) := by
          show ∀ j, _ → _
          intro j hj
          by_cases hjk : j < 2
          · exact HN.out j hjk
          · obtain rfl : j = 2 := by omega
            exact fun h => he (Option.some.inj h).symm
        have HY : Hid (3 = 8 → errStat e = 400) := by
          show _ → _
          intro h8
          omega
        clear n0 n1 H8
        go_wp2_with fail
        go_roundw
        case rel => exact ⟨3, rfl, by omega, HY.out, HX.out, HL.out.alloc HL.out.size _⟩
        case measure => simp [intOf]
    · have hix : ∀ W : World, (Instr.index 59 (.agg #[.int .i64 21, .int .i64 408, .int .i64 20, .int .i64 413, .int .i64 18, .int .i64 417, .int .i64 4, .int .i64 431, .int .i64 10, .int .i64 501, .int .i64 15, .int .i64 501, .int .i64 9, .int .i64 505, .int .i64 17, .int .i64 508]) (.int .i64 3)).run Try.prog W = .ok (.agg #[.int .i64 4, .int .i64 431]) W := fun W => by kernel_rfl
      have n0 : e ≠ 21 := fun h => HN.out 0 (by omega) (by rw [h]; rfl)
      have n1 : e ≠ 20 := fun h => HN.out 1 (by omega) (by rw [h]; rfl)
      have n2 : e ≠ 18 := fun h => HN.out 2 (by omega) (by rw [h]; rfl)
      by_cases he : e = 4
      · have HV : Hid (errStat e = 431) := by show errStat e = 431; subst he; decide
        clear n0 n1 n2
        subst he
        go_wp2_with fail
        go_ret
        rw [HV.out]
        exact ⟨rfl, HL.out.alloc HL.out.size _⟩
      · have q1 : (4 == e) = false := beq_no (fun h => he h.symm)
        have q2 : (e == 4) = false := beq_no he
        have HX : Hid (∀ j, j < 4 → ([21, 20, 18, 4, 10, 15, 9, 17] : List Int)[j]? ≠ some e) := by
          show ∀ j, _ → _
          intro j hj
          by_cases hjk : j < 3
          · exact HN.out j hjk
          · obtain rfl : j = 3 := by omega
            exact fun h => he (Option.some.inj h).symm
        have HY : Hid (4 = 8 → errStat e = 400) := by
          show _ → _
          intro h8
          omega
        clear n0 n1 n2 H8
        go_wp2_with fail
        go_roundw
        case rel => exact ⟨4, rfl, by omega, HY.out, HX.out, HL.out.alloc HL.out.size _⟩
        case measure => simp [intOf]
    · have hix : ∀ W : World, (Instr.index 59 (.agg #[.int .i64 21, .int .i64 408, .int .i64 20, .int .i64 413, .int .i64 18, .int .i64 417, .int .i64 4, .int .i64 431, .int .i64 10, .int .i64 501, .int .i64 15, .int .i64 501, .int .i64 9, .int .i64 505, .int .i64 17, .int .i64 508]) (.int .i64 4)).run Try.prog W = .ok (.agg #[.int .i64 10, .int .i64 501]) W := fun W => by kernel_rfl
      have n0 : e ≠ 21 := fun h => HN.out 0 (by omega) (by rw [h]; rfl)
      have n1 : e ≠ 20 := fun h => HN.out 1 (by omega) (by rw [h]; rfl)
      have n2 : e ≠ 18 := fun h => HN.out 2 (by omega) (by rw [h]; rfl)
      have n3 : e ≠ 4 := fun h => HN.out 3 (by omega) (by rw [h]; rfl)
      by_cases he : e = 10
      · have HV : Hid (errStat e = 501) := by show errStat e = 501; subst he; decide
        clear n0 n1 n2 n3
        subst he
        go_wp2_with fail
        go_ret
        rw [HV.out]
        exact ⟨rfl, HL.out.alloc HL.out.size _⟩
      · have q1 : (10 == e) = false := beq_no (fun h => he h.symm)
        have q2 : (e == 10) = false := beq_no he
        have HX : Hid (∀ j, j < 5 → ([21, 20, 18, 4, 10, 15, 9, 17] : List Int)[j]? ≠ some e) := by
          show ∀ j, _ → _
          intro j hj
          by_cases hjk : j < 4
          · exact HN.out j hjk
          · obtain rfl : j = 4 := by omega
            exact fun h => he (Option.some.inj h).symm
        have HY : Hid (5 = 8 → errStat e = 400) := by
          show _ → _
          intro h8
          omega
        clear n0 n1 n2 n3 H8
        go_wp2_with fail
        go_roundw
        case rel => exact ⟨5, rfl, by omega, HY.out, HX.out, HL.out.alloc HL.out.size _⟩
        case measure => simp [intOf]
    · have hix : ∀ W : World, (Instr.index 59 (.agg #[.int .i64 21, .int .i64 408, .int .i64 20, .int .i64 413, .int .i64 18, .int .i64 417, .int .i64 4, .int .i64 431, .int .i64 10, .int .i64 501, .int .i64 15, .int .i64 501, .int .i64 9, .int .i64 505, .int .i64 17, .int .i64 508]) (.int .i64 5)).run Try.prog W = .ok (.agg #[.int .i64 15, .int .i64 501]) W := fun W => by kernel_rfl
      have n0 : e ≠ 21 := fun h => HN.out 0 (by omega) (by rw [h]; rfl)
      have n1 : e ≠ 20 := fun h => HN.out 1 (by omega) (by rw [h]; rfl)
      have n2 : e ≠ 18 := fun h => HN.out 2 (by omega) (by rw [h]; rfl)
      have n3 : e ≠ 4 := fun h => HN.out 3 (by omega) (by rw [h]; rfl)
      have n4 : e ≠ 10 := fun h => HN.out 4 (by omega) (by rw [h]; rfl)
      by_cases he : e = 15
      · have HV : Hid (errStat e = 501) := by show errStat e = 501; subst he; decide
        clear n0 n1 n2 n3 n4
        subst he
        go_wp2_with fail
        go_ret
        rw [HV.out]
        exact ⟨rfl, HL.out.alloc HL.out.size _⟩
      · have q1 : (15 == e) = false := beq_no (fun h => he h.symm)
        have q2 : (e == 15) = false := beq_no he
        have HX : Hid (∀ j, j < 6 → ([21, 20, 18, 4, 10, 15, 9, 17] : List Int)[j]? ≠ some e) := by
          show ∀ j, _ → _
          intro j hj
          by_cases hjk : j < 5
          · exact HN.out j hjk
          · obtain rfl : j = 5 := by omega
            exact fun h => he (Option.some.inj h).symm
        have HY : Hid (6 = 8 → errStat e = 400) := by
          show _ → _
          intro h8
          omega
        clear n0 n1 n2 n3 n4 H8
        go_wp2_with fail
        go_roundw
        case rel => exact ⟨6, rfl, by omega, HY.out, HX.out, HL.out.alloc HL.out.size _⟩
        case measure => simp [intOf]
    · have hix : ∀ W : World, (Instr.index 59 (.agg #[.int .i64 21, .int .i64 408, .int .i64 20, .int .i64 413, .int .i64 18, .int .i64 417, .int .i64 4, .int .i64 431, .int .i64 10, .int .i64 501, .int .i64 15, .int .i64 501, .int .i64 9, .int .i64 505, .int .i64 17, .int .i64 508]) (.int .i64 6)).run Try.prog W = .ok (.agg #[.int .i64 9, .int .i64 505]) W := fun W => by kernel_rfl
      have n0 : e ≠ 21 := fun h => HN.out 0 (by omega) (by rw [h]; rfl)
      have n1 : e ≠ 20 := fun h => HN.out 1 (by omega) (by rw [h]; rfl)
      have n2 : e ≠ 18 := fun h => HN.out 2 (by omega) (by rw [h]; rfl)
      have n3 : e ≠ 4 := fun h => HN.out 3 (by omega) (by rw [h]; rfl)
      have n4 : e ≠ 10 := fun h => HN.out 4 (by omega) (by rw [h]; rfl)
      have n5 : e ≠ 15 := fun h => HN.out 5 (by omega) (by rw [h]; rfl)
      by_cases he : e = 9
      · have HV : Hid (errStat e = 505) := by show errStat e = 505; subst he; decide
        clear n0 n1 n2 n3 n4 n5
        subst he
        go_wp2_with fail
        go_ret
        rw [HV.out]
        exact ⟨rfl, HL.out.alloc HL.out.size _⟩
      · have q1 : (9 == e) = false := beq_no (fun h => he h.symm)
        have q2 : (e == 9) = false := beq_no he
        have HX : Hid (∀ j, j < 7 → ([21, 20, 18, 4, 10, 15, 9, 17] : List Int)[j]? ≠ some e) := by
          show ∀ j, _ → _
          intro j hj
          by_cases hjk : j < 6
          · exact HN.out j hjk
          · obtain rfl : j = 6 := by omega
            exact fun h => he (Option.some.inj h).symm
        have HY : Hid (7 = 8 → errStat e = 400) := by
          show _ → _
          intro h8
          omega
        clear n0 n1 n2 n3 n4 n5 H8
        go_wp2_with fail
        go_roundw
        case rel => exact ⟨7, rfl, by omega, HY.out, HX.out, HL.out.alloc HL.out.size _⟩
        case measure => simp [intOf]
    · have hix : ∀ W : World, (Instr.index 59 (.agg #[.int .i64 21, .int .i64 408, .int .i64 20, .int .i64 413, .int .i64 18, .int .i64 417, .int .i64 4, .int .i64 431, .int .i64 10, .int .i64 501, .int .i64 15, .int .i64 501, .int .i64 9, .int .i64 505, .int .i64 17, .int .i64 508]) (.int .i64 7)).run Try.prog W = .ok (.agg #[.int .i64 17, .int .i64 508]) W := fun W => by kernel_rfl
      have n0 : e ≠ 21 := fun h => HN.out 0 (by omega) (by rw [h]; rfl)
      have n1 : e ≠ 20 := fun h => HN.out 1 (by omega) (by rw [h]; rfl)
      have n2 : e ≠ 18 := fun h => HN.out 2 (by omega) (by rw [h]; rfl)
      have n3 : e ≠ 4 := fun h => HN.out 3 (by omega) (by rw [h]; rfl)
      have n4 : e ≠ 10 := fun h => HN.out 4 (by omega) (by rw [h]; rfl)
      have n5 : e ≠ 15 := fun h => HN.out 5 (by omega) (by rw [h]; rfl)
      have n6 : e ≠ 9 := fun h => HN.out 6 (by omega) (by rw [h]; rfl)
      by_cases he : e = 17
      · have HV : Hid (errStat e = 508) := by show errStat e = 508; subst he; decide
        clear n0 n1 n2 n3 n4 n5 n6
        subst he
        go_wp2_with fail
        go_ret
        rw [HV.out]
        exact ⟨rfl, HL.out.alloc HL.out.size _⟩
      · have q1 : (17 == e) = false := beq_no (fun h => he h.symm)
        have q2 : (e == 17) = false := beq_no he
        have HX : Hid (∀ j, j < 8 → ([21, 20, 18, 4, 10, 15, 9, 17] : List Int)[j]? ≠ some e) := by
          show ∀ j, _ → _
          intro j hj
          by_cases hjk : j < 7
          · exact HN.out j hjk
          · obtain rfl : j = 7 := by omega
            exact fun h => he (Option.some.inj h).symm
        have HY : Hid (8 = 8 → errStat e = 400) := by
          show _ → _
          intro h8
          unfold errStat; simp [n0, n1, n2, n3, n4, n5, n6, he]
        clear n0 n1 n2 n3 n4 n5 n6 H8
        go_wp2_with fail
        go_roundw
        case rel => exact ⟨8, rfl, by omega, HY.out, HX.out, HL.out.alloc HL.out.size _⟩
        case measure => simp [intOf]
    · have HV := Lib.hid (H8.out rfl)
      go_wp2_with fail
      go_ret
      rw [HV.out]
      exact ⟨rfl, HL.out⟩
theorem stat_other (side e : Int) (hs : side ≠ 1) (w : World) : Calls Try.prog 6 #[.int .i64 side, .int .i64 e] w fun x w' => x = .returned (.int .i64 (statB side e)) ∧ Below w.heap.size w w' := by
  have hs1 : (side == 1) = false := beq_no hs
  have hs2 : (side != 1) = true := bne_yes hs
  have hs3 : decide (side = 1) = false := dec_no hs
  by_cases he : e = 21
  · have HV : Hid (statB side e = 504) := by show statB side e = 504; unfold statB; rw [if_neg hs, if_pos he]
    subst he
    clear hs
    go_enter Try.func6, Try.ntmps6
    go_wp2_with fail
    go_ret
    rw [HV.out]
    exact ⟨rfl, Below.refl _ _⟩
  · have HV : Hid (statB side e = 502) := by show statB side e = 502; unfold statB; rw [if_neg hs, if_neg he]
    have he1 : (e == 21) = false := beq_no he
    have he2 : (e != 21) = true := bne_yes he
    have he3 : decide (e = 21) = false := dec_no he
    clear hs he
    go_enter Try.func6, Try.ntmps6
    go_wp2_with fail
    go_ret
    rw [HV.out]
    exact ⟨rfl, Below.refl _ _⟩
theorem rstat_other (side e : Int) (hs : side ≠ 1) (w : World) : Calls Try.prog 7 #[.int .i64 side, .int .i64 e] w fun x w' => x = .returned (.int .i64 (statB side e)) ∧ w = w' := by
  have hs1 : (side == 1) = false := beq_no hs
  have hs2 : (side != 1) = true := bne_yes hs
  have hs3 : decide (side = 1) = false := dec_no hs
  by_cases he : e = 21
  · have HV : Hid (statB side e = 504) := by show statB side e = 504; unfold statB; rw [if_neg hs, if_pos he]
    subst he
    clear hs
    go_enter Try.func7, Try.ntmps7
    go_wp2_with fail
    go_ret
    rw [HV.out]
    exact ⟨rfl, rfl⟩
  · have HV : Hid (statB side e = 502) := by show statB side e = 502; unfold statB; rw [if_neg hs, if_neg he]
    have he1 : (e == 21) = false := beq_no he
    have he2 : (e != 21) = true := bne_yes he
    have he3 : decide (e = 21) = false := dec_no he
    clear hs he
    go_enter Try.func7, Try.ntmps7
    go_wp2_with fail
    go_ret
    rw [HV.out]
    exact ⟨rfl, rfl⟩
theorem rstat_asker (e : Int) (w : World) : Calls Try.prog 7 #[.int .i64 1, .int .i64 e] w fun x w' => x = .returned (.int .i64 (errStat e)) ∧ w = w' := by
  by_cases n0 : e = 21
  · have HV : Hid (errStat e = 408) := by show errStat e = 408; subst n0; decide
    skip
    subst n0
    go_enter Try.func7, Try.ntmps7
    go_wp2_with fail
    go_ret
    rw [HV.out]
    exact ⟨rfl, rfl⟩
  by_cases n1 : e = 20
  · have HV : Hid (errStat e = 413) := by show errStat e = 413; subst n1; decide
    clear n0
    subst n1
    go_enter Try.func7, Try.ntmps7
    go_wp2_with fail
    go_ret
    rw [HV.out]
    exact ⟨rfl, rfl⟩
  by_cases n2 : e = 18
  · have HV : Hid (errStat e = 417) := by show errStat e = 417; subst n2; decide
    clear n0 n1
    subst n2
    go_enter Try.func7, Try.ntmps7
    go_wp2_with fail
    go_ret
    rw [HV.out]
    exact ⟨rfl, rfl⟩
  by_cases n3 : e = 4
  · have HV : Hid (errStat e = 431) := by show errStat e = 431; subst n3; decide
    clear n0 n1 n2
    subst n3
    go_enter Try.func7, Try.ntmps7
    go_wp2_with fail
    go_ret
    rw [HV.out]
    exact ⟨rfl, rfl⟩
  by_cases n4 : e = 10
  · have HV : Hid (errStat e = 501) := by show errStat e = 501; subst n4; decide
    clear n0 n1 n2 n3
    subst n4
    go_enter Try.func7, Try.ntmps7
    go_wp2_with fail
    go_ret
    rw [HV.out]
    exact ⟨rfl, rfl⟩
  by_cases n5 : e = 15
  · have HV : Hid (errStat e = 501) := by show errStat e = 501; subst n5; decide
    clear n0 n1 n2 n3 n4
    subst n5
    go_enter Try.func7, Try.ntmps7
    go_wp2_with fail
    go_ret
    rw [HV.out]
    exact ⟨rfl, rfl⟩
  by_cases n6 : e = 9
  · have HV : Hid (errStat e = 505) := by show errStat e = 505; subst n6; decide
    clear n0 n1 n2 n3 n4 n5
    subst n6
    go_enter Try.func7, Try.ntmps7
    go_wp2_with fail
    go_ret
    rw [HV.out]
    exact ⟨rfl, rfl⟩
  by_cases n7 : e = 17
  · have HV : Hid (errStat e = 508) := by show errStat e = 508; subst n7; decide
    clear n0 n1 n2 n3 n4 n5 n6
    subst n7
    go_enter Try.func7, Try.ntmps7
    go_wp2_with fail
    go_ret
    rw [HV.out]
    exact ⟨rfl, rfl⟩
  have HV : Hid (errStat e = 400) := by show errStat e = 400; unfold errStat; simp [n0, n1, n2, n3, n4, n5, n6, n7]
  have n01 : (e == 21) = false := beq_no n0
  have n02 : (e != 21) = true := bne_yes n0
  have n03 : decide (e = 21) = false := dec_no n0
  have n11 : (e == 20) = false := beq_no n1
  have n12 : (e != 20) = true := bne_yes n1
  have n13 : decide (e = 20) = false := dec_no n1
  have n21 : (e == 18) = false := beq_no n2
  have n22 : (e != 18) = true := bne_yes n2
  have n23 : decide (e = 18) = false := dec_no n2
  have n31 : (e == 4) = false := beq_no n3
  have n32 : (e != 4) = true := bne_yes n3
  have n33 : decide (e = 4) = false := dec_no n3
  have n41 : (e == 10) = false := beq_no n4
  have n42 : (e != 10) = true := bne_yes n4
  have n43 : decide (e = 10) = false := dec_no n4
  have n51 : (e == 15) = false := beq_no n5
  have n52 : (e != 15) = true := bne_yes n5
  have n53 : decide (e = 15) = false := dec_no n5
  have n61 : (e == 9) = false := beq_no n6
  have n62 : (e != 9) = true := bne_yes n6
  have n63 : decide (e = 9) = false := dec_no n6
  have n71 : (e == 17) = false := beq_no n7
  have n72 : (e != 17) = true := bne_yes n7
  have n73 : decide (e = 17) = false := dec_no n7
  clear n0 n1 n2 n3 n4 n5 n6 n7
  go_enter Try.func7, Try.ntmps7
  go_wp2_with fail
  go_ret
  rw [HV.out]
  exact ⟨rfl, rfl⟩
theorem status_any (side e : Int) (w : World) : Calls Try.prog 6 #[.int .i64 side, .int .i64 e] w fun x w' => x = .returned (.int .i64 (statB side e)) ∧ Below w.heap.size w w' := by
  by_cases hs : side = 1
  · subst hs
    exact stat_asker e w
  · exact stat_other side e hs w
theorem rstatus_side (side e : Int) (w : World) : Calls Try.prog 7 #[.int .i64 side, .int .i64 e] w fun x w' => x = .returned (.int .i64 (statB side e)) ∧ w = w' := by
  by_cases hs : side = 1
  · subst hs
    exact rstat_asker e w
  · exact rstat_other side e hs w
end Go.Proofs.Ytkcimbjgjamloaa

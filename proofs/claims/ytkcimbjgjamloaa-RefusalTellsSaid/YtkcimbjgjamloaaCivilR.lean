/- The reference's civil: what each function answers at the date of a day. -/
import Derived.Test.YtkcimbjgjamloaaCivilD
namespace Go.Proofs.Ytkcimbjgjamloaa
open Go.RowKit Civ
theorem rwhole_any (y : Int) (h : 0 ≤ y) (w : World) : Calls Try.prog 80 #[.int .i64 y] w fun e w' => e = .returned (.int .i64 (wholeY y)) ∧ w = w' := by
  have HL := Lib.hid (fun W => rleap_any y h W)
  cases hl : leapB y
  · have HV : Hid (wholeY y = 365) := by show wholeY y = 365; simp [wholeY, hl]
    rw [hl] at HL
    clear hl
    go_enter Try.func80, Try.ntmps80
    go_wp2_with (go_at_call 97; refine (HL.out _).mono ?_; rintro e' w' ⟨rfl, rfl⟩)
    go_ret
    rw [HV.out]
    exact ⟨rfl, rfl⟩
  · have HV : Hid (wholeY y = 366) := by show wholeY y = 366; simp [wholeY, hl]
    rw [hl] at HL
    clear hl
    go_enter Try.func80, Try.ntmps80
    go_wp2_with (go_at_call 97; refine (HL.out _).mono ?_; rintro e' w' ⟨rfl, rfl⟩)
    go_ret
    rw [HV.out]
    exact ⟨rfl, rfl⟩
theorem dayY_70 : dayY 1970 = 0 := by decide
theorem dayY_bounds (k : Int) (h1 : 1 ≤ k) (h2 : k ≤ 10000) : -719162 ≤ dayY k ∧ dayY k ≤ 2932897 := by
  have h3 : dayY 1 ≤ dayY k := dayY_le (by decide) h1
  have h4 : dayY k ≤ dayY 10000 := dayY_le h1 h2
  have e1 : dayY 1 = -719162 := by decide
  have e2 : dayY 10000 = 2932897 := by decide
  omega
theorem dayM_bounds (y k : Int) : 0 ≤ dayM y k ∧ dayM y k ≤ 366 := by
  unfold dayM
  repeat' split
  all_goals omega
set_option maxRecDepth 100000 in
set_option maxHeartbeats 2000000 in
theorem rdays_any {n y m d : Int} (hd : IsDate n y m d) (w : World) : Calls Try.prog 82 #[.int .i64 y, .int .i64 m, .int .i64 d] w fun e w' => e = .returned (.tuple #[.int .i64 n, .bool true]) ∧ w = w' := by
  have HW := Lib.hid (fun x h W => rwhole_any x h W)
  have HL : Hid (∀ (x : Int) (W : World), 1 ≤ x → x ≤ 12 → Calls Try.prog 81 #[.int .i64 y, .int .i64 x] W fun e w' => e = .returned (.int .i64 (longM y x)) ∧ W = w') := fun x W h1 h2 => rlong_any y x (by have := hd.y1; omega) h1 h2 W
  have hd31 : d ≤ 31 := by have := (longM_range y m hd.m1 hd.m2).2; have := hd.d2; omega
  obtain ⟨y1, y2, m1, m2, d1, d2, he⟩ := hd
  obtain ⟨L, hL⟩ : ∃ L, L = longM y m := ⟨_, rfl⟩
  rw [← hL] at d2
  have HE := Lib.hid he
  have h70 := Lib.hid dayY_70
  have q1 : decide (y < 1) = false := dec_no (by omega)
  have q2 : decide (9999 < y) = false := dec_no (by omega)
  have q3 : decide (d < 1) = false := dec_no (by omega)
  have HLm : Hid (∀ W : World, Calls Try.prog 81 #[.int .i64 y, .int .i64 m] W fun e w' => e = .returned (.int .i64 L) ∧ W = w') := fun W => by rw [hL]; exact HL.out m W m1 m2
  have q4 : decide (L < d) = false := dec_no (by omega)
  clear he hL d2
  go_enter Try.func82, Try.ntmps82
  go_wp2_with (go_at_call 81; refine (HLm.out _).mono ?_; rintro e' w' ⟨rfl, rfl⟩)
  go_loopw [8, 9] (fun nv yv wr => ∃ x k : Int, nv = .int .i64 x ∧ yv = .int .i64 k ∧ 1970 ≤ k ∧ (k ≤ y ∨ k = 1970) ∧ x = d - 1 + dayY k ∧ w = wr) (fun _ yv _ => (y - intOf yv).toNat)
  case atStart => exact ⟨d - 1, 1970, rfl, rfl, by omega, .inr rfl, by rw [h70.out]; omega, rfl⟩
  case round =>
    obtain ⟨x, k, rfl, rfl, hk1, hk2, hx, rfl⟩ := hrel
    have hb := dayY_bounds k (by omega) (by omega)
    have hx1 : -719163 ≤ x := by omega
    have hx2 : x ≤ 2932927 := by omega
    have HX := Lib.hid hx
    by_cases hlt : k < y
    · have hs := Lib.hid (dayY_succ k (by omega))
      obtain ⟨v, hv⟩ : ∃ v, v = wholeY k := ⟨_, rfl⟩
      have hv2 := wholeY_range k
      rw [← hv] at hv2
      have HWk : Hid (∀ W : World, Calls Try.prog 80 #[.int .i64 k] W fun e w' => e = .returned (.int .i64 v) ∧ W = w') := fun W => by rw [hv]; exact HW.out k (by omega) W
      have HV := Lib.hid hv
      have hk3 : k ≤ 9999 := by omega
      clear hv hx hb hk2
      go_wp2_with (go_at_call 80; refine (HWk.out _).mono ?_; rintro e' w' ⟨rfl, rfl⟩)
      go_roundw
      case rel => exact ⟨_, k + 1, rfl, rfl, by omega, .inl (by omega), by rw [hs.out, HX.out, HV.out]; omega, by trivial⟩
      case measure => simp only [intOf]; omega
    · have hx3 : x = d - 1 + dayY (max 1970 y) := by rw [hx, show max 1970 y = k by omega]
      have HX := Lib.hid hx3
      clear hx hb hk2 hx3
      go_wp2_with fail
      clear hx1 hx2 hlt hk1
      go_loopw [8, 10] (fun nv yv wr => ∃ z j : Int, nv = .int .i64 z ∧ yv = .int .i64 j ∧ y ≤ j ∧ (j ≤ 1970 ∨ j = y) ∧ z = d - 1 + dayY y + (dayY (max 1970 j) - dayY j) ∧ w = wr) (fun _ yv _ => (1970 - intOf yv).toNat)
      case atStart => exact ⟨x, y, rfl, rfl, by omega, .inr rfl, by rw [HX.out]; omega, rfl⟩
      case round =>
        clear HX
        obtain ⟨z, j, rfl, rfl, hj1, hj2, hz, rfl⟩ := hrel
        have hb := dayY_bounds j (by omega) (by omega)
        have hb2 := dayY_bounds (max 1970 j) (by omega) (by omega)
        have hb3 := dayY_bounds y (by omega) (by omega)
        have hm70 : dayY (max 1970 j) = 0 ∨ dayY (max 1970 j) = dayY j := by
          by_cases h : j ≤ 1970
          · left; rw [show max 1970 j = 1970 by omega]; exact h70.out
          · right; rw [show max 1970 j = j by omega]
        have hz1 : -4000000 ≤ z := by omega
        have hz2 : z ≤ 6000000 := by omega
        have HZ := Lib.hid hz
        clear hb hb2 hb3 hm70
        by_cases hlt : j < 1970
        · have hs := Lib.hid (dayY_succ j (by omega))
          obtain ⟨v, hv⟩ : ∃ v, v = wholeY j := ⟨_, rfl⟩
          have hv2 := wholeY_range j
          rw [← hv] at hv2
          have HWk : Hid (∀ W : World, Calls Try.prog 80 #[.int .i64 j] W fun e w' => e = .returned (.int .i64 v) ∧ W = w') := fun W => by rw [hv]; exact HW.out j (by omega) W
          have HV := Lib.hid hv
          have HM : Hid (max 1970 j = 1970 ∧ max 1970 (j + 1) = 1970) := by show _ ∧ _; omega
          clear hv hz hj2
          go_wp2_with (go_at_call 80; refine (HWk.out _).mono ?_; rintro e' w' ⟨rfl, rfl⟩)
          go_roundw
          case rel => exact ⟨_, j + 1, rfl, rfl, by omega, .inl (by omega), by rw [hs.out, HZ.out, HV.out, HM.out.1, HM.out.2]; omega, by trivial⟩
          case measure => simp only [intOf]; omega
        · have hz3 : z = d - 1 + dayY y := by rw [hz, show max 1970 j = j by omega]; omega
          have HZ := Lib.hid hz3
          clear hz hz3 hj2
          go_wp2_with fail
          clear hz1 hz2 hlt hj1
          go_loopw [8, 11] (fun nv mv wr => ∃ u i : Int, nv = .int .i64 u ∧ mv = .int .i64 i ∧ 1 ≤ i ∧ i ≤ m ∧ u = d - 1 + dayY y + dayM y i ∧ w = wr) (fun _ mv _ => (m - intOf mv).toNat)
          case atStart => exact ⟨z, 1, rfl, rfl, by omega, m1, by rw [HZ.out, dayM_one]; omega, rfl⟩
          case round =>
            clear HZ
            obtain ⟨u, i, rfl, rfl, hi1, hi2, hu, rfl⟩ := hrel
            have hb := dayY_bounds y (by omega) (by omega)
            have hb2 := dayM_bounds y i
            have hu1 : -4000000 ≤ u := by omega
            have hu2 : u ≤ 6000000 := by omega
            have HU := Lib.hid hu
            clear hb hb2
            by_cases hlt : i < m
            · have hs := Lib.hid (dayM_succ y i hi1 (by omega))
              obtain ⟨v, hv⟩ : ∃ v, v = longM y i := ⟨_, rfl⟩
              have hv2 := longM_range y i hi1 (by omega)
              rw [← hv] at hv2
              have HLi : Hid (∀ W : World, Calls Try.prog 81 #[.int .i64 y, .int .i64 i] W fun e w' => e = .returned (.int .i64 v) ∧ W = w') := fun W => by rw [hv]; exact HL.out i W hi1 (by omega)
              have HV := Lib.hid hv
              clear hv hu
              go_wp2_with (go_at_call 81; refine (HLi.out _).mono ?_; rintro e' w' ⟨rfl, rfl⟩)
              go_roundw
              case rel => exact ⟨_, i + 1, rfl, rfl, by omega, by omega, by rw [hs.out, HU.out, HV.out]; omega, by trivial⟩
              case measure => simp only [intOf]; omega
            · have hn : n = u := by rw [HE.out, hu, show i = m by omega]; omega
              have HN := Lib.hid hn
              clear hn hu
              go_wp2_with fail
              go_ret2
              rw [HN.out]
              exact ⟨rfl, by trivial⟩
set_option maxRecDepth 100000 in
set_option maxHeartbeats 2000000 in
theorem rof_any {n y m d : Int} (hd : IsDate n y m d) (w : World) : Calls Try.prog 56 #[.int .i64 n] w fun e w' => e = .returned (.tuple #[dateV y m d 0, .bool true]) ∧ Below w.heap.size w w' := by
  have HW := Lib.hid (fun x h W => rwhole_any x h W)
  have HL : Hid (∀ (x : Int) (W : World), 1 ≤ x → x ≤ 12 → Calls Try.prog 81 #[.int .i64 y, .int .i64 x] W fun e w' => e = .returned (.int .i64 (longM y x)) ∧ W = w') := fun x W h1 h2 => rlong_any y x (by have := hd.y1; omega) h1 h2 W
  obtain ⟨n1, n2⟩ := IsDate_range hd
  have n3 : n ≤ 2932896 := by omega
  have q1 : decide (n < -719162) = false := dec_no (by omega)
  have q2 : decide (2932896 < n) = false := dec_no (by omega)
  have HYr := Lib.hid hd.year
  have y1 := hd.y1
  have y2 := hd.y2
  have m1 := hd.m1
  have m2 := hd.m2
  have HE := Lib.hid hd.eq
  have HD2 := Lib.hid (And.intro hd.d1 hd.d2)
  clear hd n2
  go_enter Try.func56, Try.ntmps56
  go_wp2_with fail
  go_loopw [0, 4] (fun xv yv wr => ∃ x k : Int, xv = .int .i64 x ∧ yv = .int .i64 k ∧ 1 ≤ k ∧ k ≤ 1970 ∧ (y ≤ k ∨ k = 1970) ∧ x = n - dayY k ∧ (w.alloc (Obj.cells #[.int .i64 0, .int .i64 0, .int .i64 0, .int .i64 0, .int .i64 0, .int .i64 0] 73)) = wr) (fun _ yv _ => (intOf yv).toNat)
  case atStart => exact ⟨n, 1970, rfl, rfl, by omega, by omega, .inr rfl, by rw [dayY_70]; omega, rfl⟩
  case round =>
    obtain ⟨x, k, rfl, rfl, hk1, hk2, hk3, hx, rfl⟩ := hrel
    have hb := dayY_bounds k (by omega) (by omega)
    have hx1 : -4000000 ≤ x := by omega
    have hx2 : x ≤ 6000000 := by omega
    have HX := Lib.hid hx
    by_cases hlt : x < 0
    · have hyk : y < k := by
        apply Classical.byContradiction
        intro h
        have h1 := dayY_le hk1 (show k ≤ y by omega)
        have h2 := HYr.out.1
        omega
      have hs := Lib.hid (dayY_succ (k - 1) (by omega))
      obtain ⟨v, hv⟩ : ∃ v, v = wholeY (k - 1) := ⟨_, rfl⟩
      have hv2 := wholeY_range (k - 1)
      rw [← hv] at hv2
      have HWk : Hid (∀ W : World, Calls Try.prog 80 #[.int .i64 (k - 1)] W fun e w' => e = .returned (.int .i64 v) ∧ W = w') := fun W => by rw [hv]; exact HW.out (k - 1) (by omega) W
      have HV := Lib.hid hv
      clear hv hx hb hk3
      go_wp2_with (go_at_call 80; refine (HWk.out _).mono ?_; rintro e' w' ⟨rfl, rfl⟩)
      go_roundw
      case rel => exact ⟨_, k - 1, rfl, rfl, by omega, by omega, .inl (by omega), by have h1 := hs.out; rw [Int.sub_add_cancel] at h1; rw [HX.out, h1, HV.out]; omega, by trivial⟩
      case measure => simp only [intOf]; omega
    · have hky : k ≤ y := by
        apply Classical.byContradiction
        intro h
        have h1 := dayY_le (a := y + 1) (b := k) (by omega) (by omega)
        have h2 := HYr.out.2
        omega
      clear hx hb hk3
      go_wp2_with fail
      clear hlt hk2
      go_loopw [0, 4] (fun xv yv wr => ∃ z j : Int, xv = .int .i64 z ∧ yv = .int .i64 j ∧ 1 ≤ j ∧ j ≤ y ∧ z = n - dayY j ∧ (w.alloc (Obj.cells #[.int .i64 0, .int .i64 0, .int .i64 0, .int .i64 0, .int .i64 0, .int .i64 0] 73)) = wr) (fun _ yv _ => (y - intOf yv).toNat)
      case atStart => exact ⟨x, k, rfl, rfl, hk1, hky, HX.out, rfl⟩
      case round =>
        clear HX hx1 hx2 hky hk1
        obtain ⟨z, j, rfl, rfl, hj1, hj2, hz, rfl⟩ := hrel
        have hb := dayY_bounds j (by omega) (by omega)
        have hz1 : -4000000 ≤ z := by omega
        have hz2 : z ≤ 6000000 := by omega
        have HZ := Lib.hid hz
        have hs0 := dayY_succ j hj1
        obtain ⟨v, hv⟩ : ∃ v, v = wholeY j := ⟨_, rfl⟩
        have hv2 := wholeY_range j
        rw [← hv] at hv2 hs0
        have hs := Lib.hid hs0
        have HWk : Hid (∀ W : World, Calls Try.prog 80 #[.int .i64 j] W fun e w' => e = .returned (.int .i64 v) ∧ W = w') := fun W => by rw [hv]; exact HW.out j (by omega) W
        by_cases hlt : v ≤ z
        · have hjy : j < y := by
            apply Classical.byContradiction
            intro h
            have h1 := dayY_le (a := y + 1) (b := j + 1) (by omega) (by omega)
            have h2 := HYr.out.2
            omega
          clear hv hz hb hs0
          go_wp2_with (go_at_call 80; refine (HWk.out _).mono ?_; rintro e' w' ⟨rfl, rfl⟩)
          go_roundw
          case rel => exact ⟨_, j + 1, rfl, rfl, by omega, by omega, by rw [hs.out, HZ.out]; omega, by trivial⟩
          case measure => simp only [intOf]; omega
        · obtain rfl : j = y := by
            apply Classical.byContradiction
            intro h
            have h1 := dayY_le (a := j + 1) (b := y) (by omega) (by omega)
            have h2 := HYr.out.1
            omega
          have hlt' : z < v := by omega
          have hz3 : z = dayM j m + d - 1 := by rw [hz, HE.out]; omega
          have HZ := Lib.hid hz3
          have hb2 := dayM_bounds j m
          have hd1 := HD2.out.1
          clear hv hz hb hs0 hlt hz3 hb2 hd1
          go_wp2_with (go_at_call 80; refine (HWk.out _).mono ?_; rintro e' w' ⟨rfl, rfl⟩)
          clear hz1 hz2 hlt' HWk hs hv2
          go_loopw [0, 5] (fun xv mv wr => ∃ u i : Int, xv = .int .i64 u ∧ mv = .int .i64 i ∧ 1 ≤ i ∧ i ≤ m ∧ u = dayM j m + d - 1 - dayM j i ∧ (w.alloc (Obj.cells #[.int .i64 0, .int .i64 0, .int .i64 0, .int .i64 0, .int .i64 0, .int .i64 0] 73)) = wr) (fun _ mv _ => (m - intOf mv).toNat)
          case atStart => exact ⟨z, 1, rfl, rfl, by omega, m1, by rw [HZ.out, dayM_one]; omega, rfl⟩
          case round =>
            clear HZ
            obtain ⟨u, i, rfl, rfl, hi1, hi2, hu, rfl⟩ := hrel
            have hb := dayM_bounds j m
            have hb2 := dayM_bounds j i
            have hb3 := (longM_range j m m1 m2).2
            have hd1 := HD2.out.1
            have hd2 := HD2.out.2
            have hu1 : -4000000 ≤ u := by omega
            have hu2 : u ≤ 6000000 := by omega
            have HU := Lib.hid hu
            have hs0 := dayM_succ j i hi1 (by omega)
            obtain ⟨v, hv⟩ : ∃ v, v = longM j i := ⟨_, rfl⟩
            have hv2 := longM_range j i hi1 (by omega)
            rw [← hv] at hv2 hs0
            have hs := Lib.hid hs0
            have HLi : Hid (∀ W : World, Calls Try.prog 81 #[.int .i64 j, .int .i64 i] W fun e w' => e = .returned (.int .i64 v) ∧ W = w') := fun W => by rw [hv]; exact HL.out i W hi1 (by omega)
            by_cases hlt : v ≤ u
            · have him : i < m := by
                apply Classical.byContradiction
                intro h
                obtain rfl : i = m := by omega
                omega
              clear hv hu hb hb2 hb3 hs0 hd1 hd2
              go_wp2_with (go_at_call 81; refine (HLi.out _).mono ?_; rintro e' w' ⟨rfl, rfl⟩)
              go_roundw
              case rel => exact ⟨_, i + 1, rfl, rfl, by omega, by omega, by rw [hs.out, HU.out]; omega, by trivial⟩
              case measure => simp only [intOf]; omega
            · obtain rfl : i = m := by
                apply Classical.byContradiction
                intro h
                have h1 := dayM_mono (y := j) (a := i) (b := m) hi1 (by omega) (by omega)
                omega
              have hlt' : u < v := by omega
              have hd3 : u + 1 = d := by rw [hu]; omega
              clear hv hu hb hb2 hb3 hs0 hd1 hd2 hlt
              subst hd3
              go_wp2_with (go_at_call 81; refine (HLi.out _).mono ?_; rintro e' w' ⟨rfl, rfl⟩)
              exact bodyPost_ret (results_row_tmp Try.results56 _ _ _ _ rfl (run_loadVar_row _ _ _ _ _ _ _ (heap_alloc_new _ _) Try.underlying73 rfl (by kernel_rfl))) rfl ⟨rfl, (Below.refl _ _).alloc (Nat.le_refl _) _⟩
end Go.Proofs.Ytkcimbjgjamloaa

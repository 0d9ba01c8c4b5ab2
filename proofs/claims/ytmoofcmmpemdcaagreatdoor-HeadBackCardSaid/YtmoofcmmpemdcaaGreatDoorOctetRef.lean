/- The reference's layer 1: Tchar, Token, Value, Visible: what each answers. -/
import Derived.Test.YtmoofcmmpemdcaaGreatDoorOctet
set_option linter.unusedSimpArgs false
set_option linter.unusedVariables false
namespace Go.Proofs.YtmoofcmmpemdcaaGreatDoor
open Go.RowKit
theorem tcharB_low {r : Int} (ha : alnum r = true) : tcharB r = true := by unfold tcharB; rw [ha]; rfl
set_option maxRecDepth 100000 in
set_option maxHeartbeats 2000000 in
theorem rtchar_any (r : Int) (h0 : 0 ≤ r) (h255 : r ≤ 255) (w : World) : Calls Tryz.prog 137 #[.int .u8 r] w fun e w' => e = .returned (.bool (tcharB r)) ∧ w = w' := by
  by_cases ha : alnum r = true
  · have HT := Lib.hid (tcharB_low ha)
    have h3 : (97 ≤ r ∧ r ≤ 122) ∨ (65 ≤ r ∧ r ≤ 90) ∨ (48 ≤ r ∧ r ≤ 57) := by
      by_cases h : (97 ≤ r ∧ r ≤ 122) ∨ (65 ≤ r ∧ r ≤ 90) ∨ (48 ≤ r ∧ r ≤ 57)
      · exact h
      · rw [alnum_false h] at ha; cases ha
    clear ha
    rcases h3 with ⟨h1, h2⟩ | ⟨h1, h2⟩ | ⟨h1, h2⟩
    all_goals
      go_enter Tryz.func137, Tryz.ntmps137
      go_wp2_with fail
      go_ret
      rw [HT.out]
      exact ⟨rfl, rfl⟩
  · rw [Bool.not_eq_true] at ha
    have HA := Lib.hid ha
    have h4 : r < 48 ∨ (57 < r ∧ r < 65) ∨ (90 < r ∧ r < 97) ∨ 122 < r := by
      rcases (by omega : (r < 48 ∨ (57 < r ∧ r < 65) ∨ (90 < r ∧ r < 97) ∨ 122 < r) ∨ ((97 ≤ r ∧ r ≤ 122) ∨ (65 ≤ r ∧ r ≤ 90) ∨ (48 ≤ r ∧ r ≤ 57))) with h | h
      · exact h
      · rw [alnum_true h] at ha; cases ha
    clear ha
    obtain ⟨M, hM⟩ : ∃ M : ByteArray, M = markS := ⟨_, rfl⟩
    rcases h4 with h1 | ⟨h1, h2⟩ | ⟨h1, h2⟩ | h1
    all_goals
      go_enter Tryz.func137, Tryz.ntmps137
      go_wp2_with fail
      go_loop [4] (fun i => ∃ k : Nat, k ≤ 15 ∧ i = .int .i64 k ∧ ∀ j : Nat, j < k → ∀ m, marks[j]? = some m → (m.toNat : Int) ≠ r) (fun i => 15 - (intOf i).toNat)
      case atStart => exact ⟨0, by omega, rfl, fun j hj => by omega⟩
      case round =>
        obtain ⟨k, hk, rfl, hall⟩ := hrel
        have HALL := Lib.hid hall
        clear hall
        by_cases hlt : k < 15
        · obtain ⟨m, hm, hmg⟩ := markS_get k hlt
          have hms : k < markS.size := hlt
          have hix : ∀ W : World, (Instr.index 9 (.string ⟨#[33, 35, 36, 37, 38, 39, 42, 43, 45, 46, 94, 95, 96, 124, 126]⟩) (.int .i64 k)).run Tryz.prog W = .ok (.int .u8 m.toNat) W := fun W => by
            have h1 := run_index_string (P := Tryz.prog) (w := W) 9 markS .i64 (k : Int) Tryz.underlying9
            have h2 : 0 ≤ (k : Int) ∧ (k : Int) < markS.size := by omega
            rw [dif_pos h2] at h1
            rw [show (Instr.index 9 (.string ⟨#[33, 35, 36, 37, 38, 39, 42, 43, 45, 46, 94, 95, 96, 124, 126]⟩) (.int .i64 k)) = (Instr.index 9 (.string markS) (.int .i64 k)) from rfl, h1, ← hmg hms]
            rfl
          obtain ⟨mi, hmi⟩ : ∃ mi : Int, mi = m.toNat := ⟨_, rfl⟩
          rw [← hmi] at hix
          have HM := Lib.hid hm
          have HMI := Lib.hid hmi
          clear hm hmg hmi
          by_cases he : mi = r
          · have hT : Hid (tcharB r = true) := tcharB_mark (List.mem_of_getElem? HM.out) (by rw [← HMI.out]; exact he)
            subst he
            go_wp2_with fail
            go_ret
            rw [hT.out]
            exact ⟨rfl, rfl⟩
          · have he2 : (mi == r) = false := by simpa using he
            have HE := Lib.hid he
            clear he
            go_wp2_with fail
            go_round
            case rel =>
              refine ⟨k + 1, by omega, by go_num, fun j hj m' hm' => ?_⟩
              by_cases hjp : j = k
              · subst hjp
                rw [HM.out] at hm'
                cases hm'
                rw [← HMI.out]
                exact HE.out
              · exact HALL.out j (by omega) m' hm'
            case measure => simp [intOf]; omega
        · obtain rfl : k = 15 := by omega
          have hT : Hid (tcharB r = false) := tcharB_none HA.out HALL.out
          go_wp2_with fail
          go_ret
          rw [hT.out]
          exact ⟨rfl, rfl⟩
theorem take_all_one {s : ByteArray} {q : UInt8 → Bool} {k : Nat} (h : (s.data.toList.take k).all q = true) (hk : k < s.size) (hq : q s[k] = true) : (s.data.toList.take (k + 1)).all q = true :=
  take_all_to (n := 1) h (by omega) (fun j hj => by
    obtain rfl : j = 0 := by omega
    rw [Nat.add_zero, get_bang hk]; exact hq)
set_option maxRecDepth 100000 in
set_option maxHeartbeats 2000000 in
theorem rtoken_any (s : ByteArray) (hs : s.size ≤ 9223372036854775807) (w : World) : Calls Tryz.prog 93 #[.string s] w fun e w' => e = .returned (.bool (tokL s.data.toList)) ∧ w = w' := by
  go_enter Tryz.func93, Tryz.ntmps93
  go_wp2_with fail
  go_loop [3] (fun i => ∃ k : Nat, k ≤ s.size ∧ i = .int .i64 k ∧ (s.data.toList.take k).all (fun b => tcharB b.toNat) = true) (fun i => s.size - (intOf i).toNat)
  case atStart => exact ⟨0, by omega, rfl, rfl⟩
  case round =>
    obtain ⟨k, hk, rfl, hall⟩ := hrel
    have HALL := Lib.hid hall
    clear hall
    by_cases hlt : k < s.size
    · obtain ⟨c, hc⟩ : ∃ c : Int, c = (s[k]'hlt).toNat := ⟨_, rfl⟩
      have hix : ∀ W : World, (Instr.index 9 (.string s) (.int .i64 k)).run Tryz.prog W = .ok (.int .u8 c) W := fun W => by
        have h1 := run_index_string (P := Tryz.prog) (w := W) 9 s .i64 (k : Int) Tryz.underlying9
        have h2 : 0 ≤ (k : Int) ∧ (k : Int) < s.size := by omega
        rw [dif_pos h2] at h1
        rw [h1, hc]
        rfl
      have hc0 : 0 ≤ c := by omega
      have hc1 : c ≤ 255 := by rw [hc]; have := (s[k]'hlt).toNat_lt; omega
      have HC := Lib.hid hc
      clear hc
      obtain ⟨v, hv⟩ : ∃ v, v = tcharB c := ⟨_, rfl⟩
      have HV := Lib.hid hv
      clear hv
      go_wp2_with fail
      refine (rtchar_any c hc0 hc1 _).mono ?_
      rintro e w1 ⟨rfl, rfl⟩
      rw [← HV.out]
      cases v
      · go_wp2_with fail
        go_ret
        have hR : tokL s.data.toList = false := by unfold tokL; rw [all_not_at hlt (q := fun b => tcharB b.toNat) (by rw [HV.out, HC.out])]; simp
        rw [hR]
        exact ⟨rfl, rfl⟩
      · go_wp2_with fail
        go_round
        case rel => exact ⟨k + 1, by omega, by go_num, take_all_one HALL.out hlt (by rw [HV.out, HC.out])⟩
        case measure => simp [intOf]; omega
    · have hT : Hid ((s.data.toList.all fun b => tcharB b.toNat) = true) := all_done HALL.out hlt
      obtain rfl : k = s.size := by omega
      cases h : s.data.toList.isEmpty
      · have hz : (0 : Int) < s.size := by
          rcases Nat.eq_zero_or_pos s.size with h0 | h0
          · rw [Lib.size_eq, List.length_eq_zero_iff] at h0; rw [h0] at h; cases h
          · omega
        have hzN : decide (0 < s.size) = true := by rw [decide_eq_true_eq]; omega
        have hR : Hid (tokL s.data.toList = true) := by show tokL _ = true; unfold tokL; rw [h, hT.out]; rfl
        clear h
        go_wp2_with fail
        go_ret
        rw [hR.out]
        exact ⟨rfl, rfl⟩
      · have hz : s.size = 0 := by rw [Lib.size_eq, List.length_eq_zero_iff]; exact List.isEmpty_iff.1 h
        have hz2 : ¬ (0 : Int) < s.size := by omega
        have hR : Hid (tokL s.data.toList = false) := by show tokL _ = false; unfold tokL; rw [h]; rfl
        have hd : decide ((0 : Int) < s.size) = false := decide_eq_false hz2
        have hzN : decide (0 < s.size) = false := by rw [decide_eq_false_iff_not]; omega
        clear h hz hz2
        go_wp2_with fail
        go_ret
        rw [hR.out]
        exact ⟨rfl, rfl⟩
set_option maxRecDepth 100000 in
set_option maxHeartbeats 2000000 in
theorem rvalue_any (s : ByteArray) (hs : s.size ≤ 9223372036854775807) (w : World) : Calls Tryz.prog 95 #[.string s] w fun e w' => e = .returned (.bool (valL s.data.toList)) ∧ w = w' := by
  go_enter Tryz.func95, Tryz.ntmps95
  go_wp2_with fail
  go_loop [3] (fun i => ∃ k : Nat, k ≤ s.size ∧ i = .int .i64 k ∧ (s.data.toList.take k).all (fun b => valueB b.toNat) = true) (fun i => s.size - (intOf i).toNat)
  case atStart => exact ⟨0, by omega, rfl, rfl⟩
  case round =>
    obtain ⟨k, hk, rfl, hall⟩ := hrel
    have HALL := Lib.hid hall
    clear hall
    by_cases hlt : k < s.size
    · obtain ⟨c, hc⟩ : ∃ c : Int, c = (s[k]'hlt).toNat := ⟨_, rfl⟩
      have hix : ∀ W : World, (Instr.index 9 (.string s) (.int .i64 k)).run Tryz.prog W = .ok (.int .u8 c) W := fun W => by
        have h1 := run_index_string (P := Tryz.prog) (w := W) 9 s .i64 (k : Int) Tryz.underlying9
        have h2 : 0 ≤ (k : Int) ∧ (k : Int) < s.size := by omega
        rw [dif_pos h2] at h1
        rw [h1, hc]
        rfl
      have hc0 : 0 ≤ c := by omega
      have hc1 : c ≤ 255 := by rw [hc]; have := (s[k]'hlt).toNat_lt; omega
      have HC := Lib.hid hc
      clear hc
      rcases (by omega : c = 9 ∨ (c ≠ 9 ∧ c < 32) ∨ c = 127 ∨ (32 ≤ c ∧ c < 127) ∨ 127 < c) with h | h | h | h | h
      · have hV : valueB c = true := by unfold valueB; simp only [Bool.or_eq_true, decide_eq_true_eq]; omega
        have HV := Lib.hid hV
        clear hV
        subst h
        go_wp2_with fail
        go_round
        case rel => exact ⟨k + 1, by omega, by go_num, take_all_one HALL.out hlt (by rw [← HC.out, HV.out])⟩
        case measure => simp [intOf]; omega
      · have hV : valueB c = false := by unfold valueB; simp only [Bool.or_eq_false_iff, decide_eq_false_iff_not]; omega
        have HV := Lib.hid hV
        clear hV
        have e9 : (c != 9) = true := by simp; omega
        have e127 : (c == 127) = false := by simp; omega
        go_wp2_with fail
        go_ret
        have hR : valL s.data.toList = false := by unfold valL; rw [all_not_at hlt (q := fun b => valueB b.toNat) (by rw [← HC.out, HV.out])]
        rw [hR]
        exact ⟨rfl, rfl⟩
      · have hV : valueB c = false := by unfold valueB; simp only [Bool.or_eq_false_iff, decide_eq_false_iff_not]; omega
        have HV := Lib.hid hV
        clear hV
        subst h
        go_wp2_with fail
        go_ret
        have hR : valL s.data.toList = false := by unfold valL; rw [all_not_at hlt (q := fun b => valueB b.toNat) (by rw [← HC.out, HV.out])]
        rw [hR]
        exact ⟨rfl, rfl⟩
      · have hV : valueB c = true := by unfold valueB; simp only [Bool.or_eq_true, decide_eq_true_eq]; omega
        have HV := Lib.hid hV
        clear hV
        have e9 : (c != 9) = true := by simp; omega
        have e127 : (c == 127) = false := by simp; omega
        go_wp2_with fail
        go_round
        case rel => exact ⟨k + 1, by omega, by go_num, take_all_one HALL.out hlt (by rw [← HC.out, HV.out])⟩
        case measure => simp [intOf]; omega
      · have hV : valueB c = true := by unfold valueB; simp only [Bool.or_eq_true, decide_eq_true_eq]; omega
        have HV := Lib.hid hV
        clear hV
        have e9 : (c != 9) = true := by simp; omega
        have e127 : (c == 127) = false := by simp; omega
        go_wp2_with fail
        go_round
        case rel => exact ⟨k + 1, by omega, by go_num, take_all_one HALL.out hlt (by rw [← HC.out, HV.out])⟩
        case measure => simp [intOf]; omega
    · have hT : Hid ((s.data.toList.all fun b => valueB b.toNat) = true) := all_done HALL.out hlt
      obtain rfl : k = s.size := by omega
      have hR : Hid (valL s.data.toList = true) := hT
      go_wp2_with fail
      go_ret
      rw [hR.out]
      exact ⟨rfl, rfl⟩
set_option maxRecDepth 100000 in
set_option maxHeartbeats 2000000 in
theorem rvisible_any (s : ByteArray) (hs : s.size ≤ 9223372036854775807) (w : World) : Calls Tryz.prog 94 #[.string s] w fun e w' => e = .returned (.bool (visL s.data.toList)) ∧ w = w' := by
  go_enter Tryz.func94, Tryz.ntmps94
  go_wp2_with fail
  go_loop [3] (fun i => ∃ k : Nat, k ≤ s.size ∧ i = .int .i64 k ∧ (s.data.toList.take k).all (fun b => visB b.toNat) = true) (fun i => s.size - (intOf i).toNat)
  case atStart => exact ⟨0, by omega, rfl, rfl⟩
  case round =>
    obtain ⟨k, hk, rfl, hall⟩ := hrel
    have HALL := Lib.hid hall
    clear hall
    by_cases hlt : k < s.size
    · obtain ⟨c, hc⟩ : ∃ c : Int, c = (s[k]'hlt).toNat := ⟨_, rfl⟩
      have hix : ∀ W : World, (Instr.index 9 (.string s) (.int .i64 k)).run Tryz.prog W = .ok (.int .u8 c) W := fun W => by
        have h1 := run_index_string (P := Tryz.prog) (w := W) 9 s .i64 (k : Int) Tryz.underlying9
        have h2 : 0 ≤ (k : Int) ∧ (k : Int) < s.size := by omega
        rw [dif_pos h2] at h1
        rw [h1, hc]
        rfl
      have hc0 : 0 ≤ c := by omega
      have hc1 : c ≤ 255 := by rw [hc]; have := (s[k]'hlt).toNat_lt; omega
      have HC := Lib.hid hc
      clear hc
      rcases (by omega : c < 33 ∨ (33 ≤ c ∧ c ≤ 126) ∨ 126 < c) with h | h | h
      · have hV : visB c = false := by unfold visB; simp only [decide_eq_false_iff_not]; omega
        have HV := Lib.hid hV
        clear hV
        go_wp2_with fail
        go_ret
        have hR : visL s.data.toList = false := by unfold visL; rw [all_not_at hlt (q := fun b => visB b.toNat) (by rw [← HC.out, HV.out])]; simp
        rw [hR]
        exact ⟨rfl, rfl⟩
      · have hV : visB c = true := by unfold visB; simp only [decide_eq_true_eq]; omega
        have HV := Lib.hid hV
        clear hV
        go_wp2_with fail
        go_round
        case rel => exact ⟨k + 1, by omega, by go_num, take_all_one HALL.out hlt (by rw [← HC.out, HV.out])⟩
        case measure => simp [intOf]; omega
      · have hV : visB c = false := by unfold visB; simp only [decide_eq_false_iff_not]; omega
        have HV := Lib.hid hV
        clear hV
        go_wp2_with fail
        go_ret
        have hR : visL s.data.toList = false := by unfold visL; rw [all_not_at hlt (q := fun b => visB b.toNat) (by rw [← HC.out, HV.out])]; simp
        rw [hR]
        exact ⟨rfl, rfl⟩
    · have hT : Hid ((s.data.toList.all fun b => visB b.toNat) = true) := all_done HALL.out hlt
      obtain rfl : k = s.size := by omega
      cases h : s.data.toList.isEmpty
      · have hz : (0 : Int) < s.size := by
          rcases Nat.eq_zero_or_pos s.size with h0 | h0
          · rw [Lib.size_eq, List.length_eq_zero_iff] at h0; rw [h0] at h; cases h
          · omega
        have hzN : decide (0 < s.size) = true := by rw [decide_eq_true_eq]; omega
        have hR : Hid (visL s.data.toList = true) := by show visL _ = true; unfold visL; rw [h, hT.out]; rfl
        clear h
        go_wp2_with fail
        go_ret
        rw [hR.out]
        exact ⟨rfl, rfl⟩
      · have hz : s.size = 0 := by rw [Lib.size_eq, List.length_eq_zero_iff]; exact List.isEmpty_iff.1 h
        have hz2 : ¬ (0 : Int) < s.size := by omega
        have hR : Hid (visL s.data.toList = false) := by show visL _ = false; unfold visL; rw [h]; rfl
        have hd : decide ((0 : Int) < s.size) = false := decide_eq_false hz2
        have hzN : decide (0 < s.size) = false := by rw [decide_eq_false_iff_not]; omega
        clear h hz hz2
        go_wp2_with fail
        go_ret
        rw [hR.out]
        exact ⟨rfl, rfl⟩
end Go.Proofs.YtmoofcmmpemdcaaGreatDoor

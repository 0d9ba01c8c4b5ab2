/- The reference's Number at base 10, for a text of 1 to 18 digits: the walk. -/
import Derived.Test.YtmoofcmmpemdcaaGreatDoorNumber
set_option linter.unusedSimpArgs false
set_option linter.unusedVariables false
namespace Go.Proofs.YtmoofcmmpemdcaaGreatDoor
open Go.RowKit
def strSize : Value → Nat
  | .string t => t.size
  | _ => 0
theorem index_at (s : ByteArray) (k : Nat) (h : k < s.size) {b : Int} (hb : b = bt s k) (W : World) : (Instr.index 9 (.string s) (.int .i64 (k : Int))).run Tryz.prog W = .ok (.int .u8 b) W := by rw [hb]; exact index_bt s k h W
set_option maxRecDepth 100000 in
set_option maxHeartbeats 4000000 in
theorem rnumber_digs (s : ByteArray) (h1 : 1 ≤ s.size) (h18 : s.size ≤ 18) (hd : digs s) (most : Int) (hm0 : 0 ≤ most) (hm : most ≤ 9223372036854775807) (n e : Int) (hr : (if numV 10 s.data.toList ≤ most then (numV 10 s.data.toList, (0 : Int)) else (0, 5)) = (n, e)) (w : World) :
    Calls Tryz.prog 108 #[.string s, .int .i64 10, .int .i64 most] w fun r w' => r = .returned (.tuple #[.int .i64 n, .int .i64 e]) ∧ w = w' := by
  have HR := Lib.hid hr
  have HD := Lib.hid hd
  clear hr hd
  have hsz : (1 : Int) ≤ s.size := by omega
  have hsz2 : (s.size : Int) ≤ 18 := by omega
  have hz : ((s.size : Int) == 0) = false := by rw [beq_eq_false_iff_ne]; omega
  go_enter Tryz.func108, Tryz.ntmps108
  go_wp2_with fail
  go_loop [8] (fun i => ∃ k : Nat, k ≤ s.size ∧ i = .int .i64 k ∧ ∀ j : Nat, j < k → 48 ≤ bt s j) (fun i => s.size - (intOf i).toNat)
  case atStart => exact ⟨0, by omega, rfl, fun j hj => by omega⟩
  case round =>
    obtain ⟨k, hk, rfl, _⟩ := hrel
    by_cases hlt : k < s.size
    · obtain ⟨b, hb⟩ : ∃ b, b = bt s k := ⟨_, rfl⟩
      have hix := index_at s k hlt hb
      have hdk := HD.out k hlt
      rw [← hb] at hdk
      have hb1 := hdk.1
      have hb2 := hdk.2
      clear hb hdk
      go_wp2_with (go_at_call 154; refine (rvalue02_dig b hb1 hb2 _).mono ?_; rintro e' w' ⟨rfl, rfl⟩)
      go_round
      case rel => exact ⟨k + 1, by omega, by go_num, fun j hj => (HD.out j (by omega)).1⟩
      case measure => simp [intOf]; omega
    · obtain rfl : k = s.size := by omega
      go_wp2_with fail
      go_loop [0] (fun v => ∃ t : ByteArray, v = .string t ∧ 1 ≤ t.size ∧ t.size ≤ 18 ∧ digs t ∧ numV 10 t.data.toList = numV 10 s.data.toList) (fun v => strSize v)
      case atStart => exact ⟨s, rfl, h1, h18, HD.out, rfl⟩
      case round =>
        obtain ⟨t, rfl, ht1, ht18, htd, htn⟩ := hrel
        have TD := Lib.hid htd
        have TN := Lib.hid htn
        clear htd htn
        have hts : (1 : Int) ≤ t.size := by omega
        have hts2 : (t.size : Int) ≤ 18 := by omega
        obtain ⟨b, hb⟩ : ∃ b, b = bt t 0 := ⟨_, rfl⟩
        have hix : ∀ W : World, (Instr.index 9 (.string t) (.int .i64 0)).run Tryz.prog W = .ok (.int .u8 b) W := index_at t 0 (by omega) hb
        have HB := Lib.hid hb
        clear hb
        by_cases hgo : 1 < t.size ∧ b = 48
        · obtain ⟨hg1, rfl⟩ := hgo
          have hg2 : (1 : Int) < t.size := by omega
          go_wp2_with fail
          go_round
          case rel => exact ⟨t.extract 1 t.size, by simp, by rw [tail_size]; omega, by rw [tail_size]; omega, tail_digs TD.out, by rw [tail_num (by omega) HB.out.symm]; exact TN.out⟩
          case measure => simp [strSize]; omega
        · have hstop : t.size = 1 ∨ (1 < t.size ∧ b ≠ 48) := by
            rcases (by omega : t.size = 1 ∨ (1 < t.size)) with h | h
            · exact .inl h
            · exact .inr ⟨h, fun h' => hgo ⟨h, h'⟩⟩
          clear hgo
          have h19 : decide ((19 : Int) < t.size) = false := by rw [decide_eq_false_iff_not]; omega
          rcases hstop with hone | ⟨hmore, hne⟩
          · have ho : (t.size : Int) = 1 := by omega
            go_wp2_with fail
            go_loop [9, 10] (fun nv iv => ∃ (k : Nat) (m : Int), nv = .int .u64 m ∧ iv = .int .i64 k ∧ k ≤ t.size ∧ m = numV 10 (t.data.toList.take k)) (fun _ iv => t.size - (intOf iv).toNat)
            case atStart => exact ⟨0, 0, rfl, rfl, by omega, rfl⟩
            case round =>
              obtain ⟨k, m, rfl, rfl, hk, hmv⟩ := hrel
              have HM := Lib.hid hmv
              clear hmv
              by_cases hlt : k < t.size
              · have hsm := numV_small t TD.out k (by omega) (by omega)
                rw [← HM.out] at hsm
                have hsm0 := hsm.1
                have hsm1 := hsm.2
                obtain ⟨c, hc⟩ : ∃ c, c = bt t k := ⟨_, rfl⟩
                have hix2 := index_at t k hlt hc
                have hdk := TD.out k hlt
                rw [← hc] at hdk
                have hc1 := hdk.1
                have hc2 := hdk.2
                have HC := Lib.hid hc
                clear hc hdk hsm
                go_wp2_with (go_at_call 154; refine (rvalue02_dig c hc1 hc2 _).mono ?_; rintro e' w' ⟨rfl, rfl⟩)
                go_round
                case rel => exact ⟨k + 1, m * 10 + (c - 48), by go_num, by go_num, by omega, by rw [numV_step t k hlt TD.out, ← HM.out, ← HC.out]⟩
                case measure => simp [intOf]; omega
              · obtain rfl : k = t.size := by omega
                have hmm : Hid (m = numV 10 s.data.toList) := by show m = _; rw [HM.out, take_size, TN.out]
                have hsm := numV_range t TD.out t.size (by omega)
                rw [← HM.out] at hsm
                have hsm0 := hsm.1
                have hp : (10 : Nat) ^ t.size ≤ 10 ^ 18 := Nat.pow_le_pow_right (by decide) ht18
                have hp2 : (10 : Nat) ^ 18 = 1000000000000000000 := by decide
                have hsm1 : m < 1000000000000000000 := by omega
                clear hsm hp hp2
                by_cases hle : m ≤ most
                · have hK : Hid ((m, 0) = (n, e)) := by show (m, 0) = (n, e); rw [← HR.out, if_pos (by rw [← hmm.out]; exact hle), hmm.out]
                  have hgt : decide (most < m) = false := by rw [decide_eq_false_iff_not]; omega
                  go_wp2_with fail
                  go_ret2
                  obtain ⟨rfl, rfl⟩ := Prod.mk.inj hK.out
                  exact ⟨rfl, rfl⟩
                · have hK : Hid ((0, 5) = (n, e)) := by show (0, 5) = (n, e); rw [← HR.out, if_neg (by rw [← hmm.out]; exact hle)]
                  have hgt : most < m := by omega
                  go_wp2_with fail
                  go_ret2
                  obtain ⟨rfl, rfl⟩ := Prod.mk.inj hK.out
                  exact ⟨rfl, rfl⟩
          · have hg2 : (1 : Int) < t.size := by omega
            have hne' : (b == 48) = false := by simpa using hne
            go_wp2_with fail
            go_loop [9, 10] (fun nv iv => ∃ (k : Nat) (m : Int), nv = .int .u64 m ∧ iv = .int .i64 k ∧ k ≤ t.size ∧ m = numV 10 (t.data.toList.take k)) (fun _ iv => t.size - (intOf iv).toNat)
            case atStart => exact ⟨0, 0, rfl, rfl, by omega, rfl⟩
            case round =>
              obtain ⟨k, m, rfl, rfl, hk, hmv⟩ := hrel
              have HM := Lib.hid hmv
              clear hmv
              by_cases hlt : k < t.size
              · have hsm := numV_small t TD.out k (by omega) (by omega)
                rw [← HM.out] at hsm
                have hsm0 := hsm.1
                have hsm1 := hsm.2
                obtain ⟨c, hc⟩ : ∃ c, c = bt t k := ⟨_, rfl⟩
                have hix2 := index_at t k hlt hc
                have hdk := TD.out k hlt
                rw [← hc] at hdk
                have hc1 := hdk.1
                have hc2 := hdk.2
                have HC := Lib.hid hc
                clear hc hdk hsm
                go_wp2_with (go_at_call 154; refine (rvalue02_dig c hc1 hc2 _).mono ?_; rintro e' w' ⟨rfl, rfl⟩)
                go_round
                case rel => exact ⟨k + 1, m * 10 + (c - 48), by go_num, by go_num, by omega, by rw [numV_step t k hlt TD.out, ← HM.out, ← HC.out]⟩
                case measure => simp [intOf]; omega
              · obtain rfl : k = t.size := by omega
                have hmm : Hid (m = numV 10 s.data.toList) := by show m = _; rw [HM.out, take_size, TN.out]
                have hsm := numV_range t TD.out t.size (by omega)
                rw [← HM.out] at hsm
                have hsm0 := hsm.1
                have hp : (10 : Nat) ^ t.size ≤ 10 ^ 18 := Nat.pow_le_pow_right (by decide) ht18
                have hp2 : (10 : Nat) ^ 18 = 1000000000000000000 := by decide
                have hsm1 : m < 1000000000000000000 := by omega
                clear hsm hp hp2
                by_cases hle : m ≤ most
                · have hK : Hid ((m, 0) = (n, e)) := by show (m, 0) = (n, e); rw [← HR.out, if_pos (by rw [← hmm.out]; exact hle), hmm.out]
                  have hgt : decide (most < m) = false := by rw [decide_eq_false_iff_not]; omega
                  go_wp2_with fail
                  go_ret2
                  obtain ⟨rfl, rfl⟩ := Prod.mk.inj hK.out
                  exact ⟨rfl, rfl⟩
                · have hK : Hid ((0, 5) = (n, e)) := by show (0, 5) = (n, e); rw [← HR.out, if_neg (by rw [← hmm.out]; exact hle)]
                  have hgt : most < m := by omega
                  go_wp2_with fail
                  go_ret2
                  obtain ⟨rfl, rfl⟩ := Prod.mk.inj hK.out
                  exact ⟨rfl, rfl⟩
end Go.Proofs.YtmoofcmmpemdcaaGreatDoor

/- The walk of DrillDice. -/
import Derived.Test.YtmkjkodblincbaaDice
namespace Go.Proofs.Ytmkjkodblincbaa
open Go.RowKit


set_option maxHeartbeats 1000000 in
theorem dice_row (seed : Int) (b off len cap : Nat) (zs : List Int) (w : World) (h0 : 0 < len) (hl : len ≤ cap) (hm : cap ≤ 9223372036854775807) (hz : zs.length = cap)
    (hc : ∀ i, i < cap → w.cell? ⟨b, off + i, none⟩ = some (.int .i64 (zs.getD i 0))) (hw : ∀ i, i < cap → zs.getD i 0 ≤ 9223372036854775807) (hb : b < w.heap.size) :
    Calls Try.prog 3 #[.int .i64 seed, .slice (some ⟨b, off, none⟩) len cap] w fun e w' => e = .returned (.bool true) ∧ Below w.heap.size w w' := by
  have HC := Lib.hid hc
  have HW := Lib.hid hw
  have HZ := Lib.hid hz
  clear hc hw hz
  obtain ⟨s0, hs0⟩ : ∃ s, s = IntKind.u64.wrap seed := ⟨_, rfl⟩
  have HS := Lib.hid hs0
  clear hs0
  by_cases h60 : len ≤ 60
  all_goals
    go_enter Try.func3, Try.ntmps3
    go_wp2_with (go_at_call 9; refine (new_any _ _).mono ?_; rintro e w' ⟨rfl, rfl⟩)
    rw [← HS.out]
    go_loopw [6, 24] (fun s i wr => ∃ (k : Nat) (st : Int), k ≤ len ∧ i = .int .i64 k ∧ s = .int .u64 st ∧ wr.cell? ⟨w.heap.size, 0, none⟩ = some (.int .u64 st) ∧ wr.frozen? ⟨w.heap.size, 0, none⟩ = false ∧ Below w.heap.size w wr) (fun _ i _ => len - (intOf i).toNat)
    case atStart => exact ⟨0, s0, Nat.zero_le _, rfl, rfl, by simp, by simp, (Below.refl _ _).alloc (Nat.le_refl _) _⟩
    case round =>
      obtain ⟨k, st, hk, rfl, rfl, hcell, hfr, hnx⟩ := hrel
      by_cases hlt : k < len ∧ k < 60
      · obtain ⟨hk1, hk2⟩ := hlt
        have hck := (bcell hnx b (off + k) hb).trans (HC.out k (by omega))
        have hwk := HW.out k (by omega)
        generalize zs.getD k 0 = n at hck hwk
        by_cases hn : n < 1
        · go_wp2_with (go_at_call 10; refine (below_low _ _ _ hn).mono ?_; rintro e w' ⟨rfl, rfl⟩)
          go_roundw
          case rel => exact ⟨k + 1, st, by omega, by go_num, rfl, hcell, hfr, hnx⟩
          case measure => simp [intOf]; omega
        · have hn1 : 1 ≤ n := by omega
          clear hn
          have hr := num_rng st
          have h2 := Int.emod_lt_of_pos (num st) (b := n) (by omega)
          have h3 := Int.emod_nonneg (num st) (b := n) (by omega)
          go_wp2_with (go_at_call 11; refine (refnext _ _).mono ?_; rintro e w' ⟨rfl, rfl⟩)
          have hz1 : (n == 0) = false := by simp; omega
          have hz2 : ¬ n = 0 := by omega
          have hq1 : IntKind.u64.wrap n = n := IntWalk.u64_in _ (by omega)
          have hq2 : (num st).tmod n = num st % n := Int.tmod_eq_emod_of_nonneg hr.1
          have hq3 : IntKind.u64.wrap (num st % n) = num st % n := IntWalk.u64_in _ (by omega)
          have hq4 : IntKind.i64.wrap (num st % n) = num st % n := IntWalk.i64_in _ (by omega)
          go_region_with (go_at_call 10; refine (below_any _ st n _ hn1 hwk (by simpa using hcell) (by simpa using hfr)).mono ?_; rintro e w' ⟨rfl, rfl⟩)
          all_goals
            clear hq1 hq2 hq3 hq4
            go_wp2
            go_roundw
            case rel => exact ⟨k + 1, stp st, by omega, by go_num, rfl, by simp [World.cell?_setCell_same, *], by simp [*], ((hnx.drew).setCell (Nat.le_refl _) _)⟩
            case measure => simp [intOf]; omega
      · go_wp2_with fail
        refine (refnext _ _).mono ?_
        rintro e w' ⟨rfl, rfl⟩
        go_wp2_with fail
        refine (next_any _ st _ hcell hfr).mono ?_
        rintro e w' ⟨rfl, rfl⟩
        go_wp2_with fail
        refine (next_nil _).mono ?_
        rintro e w' ⟨rfl, rfl⟩
        go_wp2_with fail
        refine (below_nil _).mono ?_
        rintro e w' ⟨rfl, rfl⟩
        go_wp2_with fail
        refine (dlives _).mono ?_
        rintro e w' ⟨rfl, hb2⟩
        go_wp2_with fail
        go_ret
        exact ⟨rfl, (hnx.setCell (Nat.le_refl _) _).trans (hb2.mono (by simp; exact hnx.size))⟩

set_option maxHeartbeats 1000000 in
theorem dice_empty (seed : Int) (a : Option Addr) (cap : Nat) (w : World) :
    Calls Try.prog 3 #[.int .i64 seed, .slice a 0 cap] w fun e w' => e = .returned (.bool true) ∧ Below w.heap.size w w' := by
  obtain ⟨s0, hs0⟩ : ∃ s, s = IntKind.u64.wrap seed := ⟨_, rfl⟩
  have HS := Lib.hid hs0
  clear hs0
  have hc : (w.alloc (.cells #[.int .u64 s0] 75)).cell? ⟨w.heap.size, 0, none⟩ = some (.int .u64 s0) := by simp
  have hf : (w.alloc (.cells #[.int .u64 s0] 75)).frozen? ⟨w.heap.size, 0, none⟩ = false := by simp
  go_enter Try.func3, Try.ntmps3
  go_wp2_with (go_at_call 9; refine (new_any _ _).mono ?_; rintro e w' ⟨rfl, rfl⟩)
  rw [← HS.out]
  refine wp_loop_rounds 1 ?_
  rw [rounds_succ]
  go_wp2_with fail
  refine (refnext _ _).mono ?_
  rintro e w' ⟨rfl, rfl⟩
  go_wp2_with fail
  refine (next_any _ s0 _ hc hf).mono ?_
  rintro e w' ⟨rfl, rfl⟩
  go_wp2_with fail
  refine (next_nil _).mono ?_
  rintro e w' ⟨rfl, rfl⟩
  go_wp2_with fail
  refine (below_nil _).mono ?_
  rintro e w' ⟨rfl, rfl⟩
  go_wp2_with fail
  refine (dlives _).mono ?_
  rintro e w' ⟨rfl, hb2⟩
  go_wp2_with fail
  go_ret
  exact ⟨rfl, ((Below.refl _ _).alloc (Nat.le_refl _) _).trans (hb2.mono (by simp))⟩
end Go.Proofs.Ytmkjkodblincbaa

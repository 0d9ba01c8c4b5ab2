/- Layer 15: the laws StartRequests, StartStatuses: they answer true. -/
import Derived.Test.YtekbmefdaepgcaaDoorStartLives
namespace Go.Proofs.YtekbmefdaepgcaaDoor
open Go.RowKit
theorem cut_at (l : ByteArray) (hl : l.size ≤ 9223372036854775807) : ∃ s : ByteArray, s.size ≤ 1000 ∧ ∀ W : World, (Instr.slice 9 (.string l) none (some (.int .i64 (min (l.size : Int) 1000))) none).run Tryd.prog W = .ok (.string s) W := by
  refine ⟨l.extract 0 (min (l.size : Int) 1000).toNat, by simp; omega, fun W => ?_⟩
  rw [run_slice_string_h W 9 l Tryd.underlying9 .i64 (min (l.size : Int) 1000) (by omega) (by omega)]
set_option maxHeartbeats 4000000 in
theorem start_requests (l : ByteArray) (hl : l.size ≤ 9223372036854775807) {mx : Int} (w : World) (hm : w.cell? ⟨0, 0, none⟩ = some (.int .i64 mx)) : Calls Tryd.prog 3 #[.string l] w fun e w' => e = .returned (.bool true) ∧ Below w.heap.size w w' := by
  obtain ⟨s, hs, hsl⟩ := cut_at l hl
  obtain ⟨m, t, k, e, hr⟩ : ∃ m t k e, reqRes s = ((m, t, k), e) := ⟨_, _, _, _, rfl⟩
  obtain ⟨k', f, hk⟩ : ∃ k' f, vminor s = (k', f) := ⟨_, _, rfl⟩
  have HM := Lib.hid hm
  have H1 : Hid (∀ W : World, W.cell? ⟨0, 0, none⟩ = some (.int .i64 mx) → Calls Tryd.prog 7 #[.string s] W fun o w' => o = .returned (.tuple #[.agg #[.string m, .string t, .int .i64 k, .int .i64 0, .string ⟨#[]⟩, .slice none 0 0], .int .i64 e]) ∧ Below W.heap.size W w') := fun W h => request_any s hs hr W h
  have H2 : Hid (∀ W : World, Calls Tryd.prog 8 #[.string s] W fun o w' => o = .returned (.tuple #[.agg #[.string m, .string t, .int .i64 k, .int .i64 0, .string ⟨#[]⟩, .slice none 0 0], .int .i64 e]) ∧ Below W.heap.size W w') := fun W => rrequest_any s hs hr W
  have H3 : Hid (∀ W : World, Calls Tryd.prog 9 #[.string s] W fun r w' => r = .returned (.tuple #[.int .i64 k', .int .i64 f]) ∧ W = w') := fun W => minor_any s (by omega) hk W
  have H4 : Hid (∀ W : World, Calls Tryd.prog 10 #[.string s] W fun r w' => r = .returned (.tuple #[.int .i64 k', .int .i64 f]) ∧ W = w') := fun W => rminor_any s (by omega) hk W
  clear hk
  clear hm hs hr hl
  go_enter Tryd.func3, Tryd.ntmps3
  go_wp2_with fail
  refine (H1.out _ HM.out).mono ?_
  rintro e' w1 ⟨rfl, hb⟩
  have B1 := Lib.hid hb
  have M1 := Lib.hid (cell_below HM.out hb)
  have K1 : Hid (Blk (w1.alloc (.cells #[.string m, .string t, .int .i64 k, .int .i64 0, .string ⟨#[]⟩, .slice none 0 0] 24)) w1.heap.size #[.string m, .string t, .int .i64 k, .int .i64 0, .string ⟨#[]⟩, .slice none 0 0] 24) := Blk.new _ _ _
  have B2 : Hid (Below w.heap.size w (w1.alloc (.cells #[.string m, .string t, .int .i64 k, .int .i64 0, .string ⟨#[]⟩, .slice none 0 0] 24))) := B1.out.alloc B1.out.size _
  have M2 : Hid ((w1.alloc (.cells #[.string m, .string t, .int .i64 k, .int .i64 0, .string ⟨#[]⟩, .slice none 0 0] 24)).cell? ⟨0, 0, none⟩ = some (.int .i64 mx)) := cell_alloc M1.out _
  clear hb
  go_wp2_with fail
  refine (H2.out _).mono ?_
  rintro e' w2 ⟨rfl, hb⟩
  have K2 := Lib.hid (K1.out.call hb)
  have B3 := Lib.hid (B2.out.trans (hb.mono B2.out.size))
  have M3 := Lib.hid (cell_below M2.out hb)
  clear hb K1 B2
  obtain ⟨a, ha⟩ : ∃ a, a = w1.heap.size := ⟨_, rfl⟩
  rw [← ha] at K2
  rw [← ha]
  clear ha
  have J1 := Lib.hid (K2.out.alloc (.cells #[.string m, .string t, .int .i64 k, .int .i64 0, .string ⟨#[]⟩, .slice none 0 0] 24))
  have M4 : Hid ((w2.alloc (.cells #[.string m, .string t, .int .i64 k, .int .i64 0, .string ⟨#[]⟩, .slice none 0 0] 24)).cell? ⟨0, 0, none⟩ = some (.int .i64 mx)) := cell_alloc M3.out _
  have B4 : Hid (Below w.heap.size w (w2.alloc (.cells #[.string m, .string t, .int .i64 k, .int .i64 0, .string ⟨#[]⟩, .slice none 0 0] 24))) := B3.out.alloc B3.out.size _
  have c0 : (w2.alloc (.cells #[.string m, .string t, .int .i64 k, .int .i64 0, .string ⟨#[]⟩, .slice none 0 0] 24)).cell? ⟨a, 0, none⟩ = some (.string m) := J1.out.cell 0
  have c1 : (w2.alloc (.cells #[.string m, .string t, .int .i64 k, .int .i64 0, .string ⟨#[]⟩, .slice none 0 0] 24)).cell? ⟨a, 1, none⟩ = some (.string t) := J1.out.cell 1
  have c2 : (w2.alloc (.cells #[.string m, .string t, .int .i64 k, .int .i64 0, .string ⟨#[]⟩, .slice none 0 0] 24)).cell? ⟨a, 2, none⟩ = some (.int .i64 k) := J1.out.cell 2
  have c3 : (w2.alloc (.cells #[.string m, .string t, .int .i64 k, .int .i64 0, .string ⟨#[]⟩, .slice none 0 0] 24)).cell? ⟨a, 3, none⟩ = some (.int .i64 0) := J1.out.cell 3
  have c4 : (w2.alloc (.cells #[.string m, .string t, .int .i64 k, .int .i64 0, .string ⟨#[]⟩, .slice none 0 0] 24)).cell? ⟨a, 4, none⟩ = some (.string ⟨#[]⟩) := J1.out.cell 4
  have c5 : (w2.alloc (.cells #[.string m, .string t, .int .i64 k, .int .i64 0, .string ⟨#[]⟩, .slice none 0 0] 24)).cell? ⟨a, 5, none⟩ = some (.slice none 0 0) := J1.out.cell 5
  go_wp2_with (first
    | (go_at_call 9; refine (H3.out _).mono ?_; rintro e' w' ⟨rfl, rfl⟩)
    | (go_at_call 10; refine (H4.out _).mono ?_; rintro e' w' ⟨rfl, rfl⟩))
  refine (same_self _ _ _ _ _ _ _ _).mono ?_
  rintro e' w3 ⟨rfl, hb⟩
  have K3 := Lib.hid (J1.out.call hb)
  have B5 := Lib.hid (B4.out.trans (hb.mono B4.out.size))
  have M5 := Lib.hid (cell_below M4.out hb)
  clear hb c0 c1 c2 c3 c4 c5
  have d0 : w3.cell? ⟨a, 0, none⟩ = some (.string m) := K3.out.cell 0
  have d1 : w3.cell? ⟨a, 1, none⟩ = some (.string t) := K3.out.cell 1
  have d2 : w3.cell? ⟨a, 2, none⟩ = some (.int .i64 k) := K3.out.cell 2
  have d3 : w3.cell? ⟨a, 3, none⟩ = some (.int .i64 0) := K3.out.cell 3
  have d4 : w3.cell? ⟨a, 4, none⟩ = some (.string ⟨#[]⟩) := K3.out.cell 4
  have d5 : w3.cell? ⟨a, 5, none⟩ = some (.slice none 0 0) := K3.out.cell 5
  go_wp2_with fail
  refine (lives15 _ M5.out).mono ?_
  rintro e' w4 ⟨rfl, hb⟩
  have B6 := Lib.hid (B5.out.trans (hb.mono B5.out.size))
  clear hb
  go_wp2_with fail
  go_ret
  exact ⟨rfl, B6.out⟩
set_option maxHeartbeats 4000000 in
theorem start_statuses (l : ByteArray) (hl : l.size ≤ 9223372036854775807) (x : Int) {mx : Int} (w : World) (hm : w.cell? ⟨0, 0, none⟩ = some (.int .i64 mx)) : Calls Tryd.prog 4 #[.string l, .int .i64 x] w fun e w' => e = .returned (.bool true) ∧ Below w.heap.size w w' := by
  obtain ⟨s, hs, hsl⟩ := cut_at l hl
  obtain ⟨k, n, r, e, hr⟩ : ∃ k n r e, statRes s = ((k, n, r), e) := ⟨_, _, _, _, rfl⟩
  have HM := Lib.hid hm
  have H1 : Hid (∀ W : World, Calls Tryd.prog 13 #[.string s] W fun o w' => o = .returned (.tuple #[.agg #[.string ⟨#[]⟩, .string ⟨#[]⟩, .int .i64 k, .int .i64 n, .string r, .slice none 0 0], .int .i64 e]) ∧ Below W.heap.size W w') := fun W => status_any s hs hr W
  have H2 : Hid (∀ W : World, Calls Tryd.prog 14 #[.string s] W fun o w' => o = .returned (.tuple #[.agg #[.string ⟨#[]⟩, .string ⟨#[]⟩, .int .i64 k, .int .i64 n, .string r, .slice none 0 0], .int .i64 e]) ∧ Below W.heap.size W w') := fun W => rstatus_any s hs hr W
  clear hm hs hr hl
  go_enter Tryd.func4, Tryd.ntmps4
  go_wp2_with fail
  refine (H1.out _).mono ?_
  rintro e' w1 ⟨rfl, hb⟩
  have B1 := Lib.hid hb
  have M1 := Lib.hid (cell_below HM.out hb)
  have K1 : Hid (Blk (w1.alloc (.cells #[.string ⟨#[]⟩, .string ⟨#[]⟩, .int .i64 k, .int .i64 n, .string r, .slice none 0 0] 24)) w1.heap.size #[.string ⟨#[]⟩, .string ⟨#[]⟩, .int .i64 k, .int .i64 n, .string r, .slice none 0 0] 24) := Blk.new _ _ _
  have B2 : Hid (Below w.heap.size w (w1.alloc (.cells #[.string ⟨#[]⟩, .string ⟨#[]⟩, .int .i64 k, .int .i64 n, .string r, .slice none 0 0] 24))) := B1.out.alloc B1.out.size _
  have M2 : Hid ((w1.alloc (.cells #[.string ⟨#[]⟩, .string ⟨#[]⟩, .int .i64 k, .int .i64 n, .string r, .slice none 0 0] 24)).cell? ⟨0, 0, none⟩ = some (.int .i64 mx)) := cell_alloc M1.out _
  clear hb
  go_wp2_with fail
  refine (H2.out _).mono ?_
  rintro e' w2 ⟨rfl, hb⟩
  have K2 := Lib.hid (K1.out.call hb)
  have B3 := Lib.hid (B2.out.trans (hb.mono B2.out.size))
  have M3 := Lib.hid (cell_below M2.out hb)
  clear hb K1 B2
  obtain ⟨a, ha⟩ : ∃ a, a = w1.heap.size := ⟨_, rfl⟩
  rw [← ha] at K2
  rw [← ha]
  clear ha
  have J1 := Lib.hid (K2.out.alloc (.cells #[.string ⟨#[]⟩, .string ⟨#[]⟩, .int .i64 k, .int .i64 n, .string r, .slice none 0 0] 24))
  have M4 : Hid ((w2.alloc (.cells #[.string ⟨#[]⟩, .string ⟨#[]⟩, .int .i64 k, .int .i64 n, .string r, .slice none 0 0] 24)).cell? ⟨0, 0, none⟩ = some (.int .i64 mx)) := cell_alloc M3.out _
  have B4 : Hid (Below w.heap.size w (w2.alloc (.cells #[.string ⟨#[]⟩, .string ⟨#[]⟩, .int .i64 k, .int .i64 n, .string r, .slice none 0 0] 24))) := B3.out.alloc B3.out.size _
  have c0 : (w2.alloc (.cells #[.string ⟨#[]⟩, .string ⟨#[]⟩, .int .i64 k, .int .i64 n, .string r, .slice none 0 0] 24)).cell? ⟨a, 0, none⟩ = some (.string ⟨#[]⟩) := J1.out.cell 0
  have c1 : (w2.alloc (.cells #[.string ⟨#[]⟩, .string ⟨#[]⟩, .int .i64 k, .int .i64 n, .string r, .slice none 0 0] 24)).cell? ⟨a, 1, none⟩ = some (.string ⟨#[]⟩) := J1.out.cell 1
  have c2 : (w2.alloc (.cells #[.string ⟨#[]⟩, .string ⟨#[]⟩, .int .i64 k, .int .i64 n, .string r, .slice none 0 0] 24)).cell? ⟨a, 2, none⟩ = some (.int .i64 k) := J1.out.cell 2
  have c3 : (w2.alloc (.cells #[.string ⟨#[]⟩, .string ⟨#[]⟩, .int .i64 k, .int .i64 n, .string r, .slice none 0 0] 24)).cell? ⟨a, 3, none⟩ = some (.int .i64 n) := J1.out.cell 3
  have c4 : (w2.alloc (.cells #[.string ⟨#[]⟩, .string ⟨#[]⟩, .int .i64 k, .int .i64 n, .string r, .slice none 0 0] 24)).cell? ⟨a, 4, none⟩ = some (.string r) := J1.out.cell 4
  have c5 : (w2.alloc (.cells #[.string ⟨#[]⟩, .string ⟨#[]⟩, .int .i64 k, .int .i64 n, .string r, .slice none 0 0] 24)).cell? ⟨a, 5, none⟩ = some (.slice none 0 0) := J1.out.cell 5
  go_wp2_with fail
  refine (same_self _ _ _ _ _ _ _ _).mono ?_
  rintro e' w3 ⟨rfl, hb⟩
  have K3 := Lib.hid (J1.out.call hb)
  have B5 := Lib.hid (B4.out.trans (hb.mono B4.out.size))
  have M5 := Lib.hid (cell_below M4.out hb)
  clear hb c0 c1 c2 c3 c4 c5
  have d0 : w3.cell? ⟨a, 0, none⟩ = some (.string ⟨#[]⟩) := K3.out.cell 0
  have d1 : w3.cell? ⟨a, 1, none⟩ = some (.string ⟨#[]⟩) := K3.out.cell 1
  have d2 : w3.cell? ⟨a, 2, none⟩ = some (.int .i64 k) := K3.out.cell 2
  have d3 : w3.cell? ⟨a, 3, none⟩ = some (.int .i64 n) := K3.out.cell 3
  have d4 : w3.cell? ⟨a, 4, none⟩ = some (.string r) := K3.out.cell 4
  have d5 : w3.cell? ⟨a, 5, none⟩ = some (.slice none 0 0) := K3.out.cell 5
  obtain ⟨R, hR⟩ : ∃ R, R = reasonS x := ⟨_, rfl⟩
  have H5 : Hid (∀ W : World, Calls Tryd.prog 15 #[.int .i64 x] W fun e w' => e = .returned (.string R) ∧ W = w') := fun W => by rw [hR]; exact reason_any x W
  have H6 : Hid (∀ W : World, Calls Tryd.prog 16 #[.int .i64 x] W fun e w' => e = .returned (.string R) ∧ Below W.heap.size W w') := fun W => by rw [hR]; exact rreason_any x W
  clear hR
  go_wp2_with fail
  refine (H5.out _).mono ?_
  rintro e' w4 ⟨rfl, rfl⟩
  go_wp2_with fail
  refine (H6.out _).mono ?_
  rintro e' w5 ⟨rfl, hb⟩
  have B5 := Lib.hid (B5.out.trans (hb.mono B5.out.size))
  have M5 := Lib.hid (cell_below M5.out hb)
  clear hb
  go_wp2_with fail
  refine (lives15 _ M5.out).mono ?_
  rintro e' w4 ⟨rfl, hb⟩
  have B6 := Lib.hid (B5.out.trans (hb.mono B5.out.size))
  clear hb
  go_wp2_with fail
  go_ret
  exact ⟨rfl, B6.out⟩
end Go.Proofs.YtekbmefdaepgcaaDoor

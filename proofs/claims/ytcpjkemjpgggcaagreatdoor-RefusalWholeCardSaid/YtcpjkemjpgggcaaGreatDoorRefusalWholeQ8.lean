/- Texts packed for one claim, 8 of 45: Print DPrint. -/
import Derived.Test.YtcpjkemjpgggcaaGreatDoorRefusalWholeQ2
import Derived.Test.YtcpjkemjpgggcaaGreatDoorRefusalWholeQ6
import Derived.Test.YtcpjkemjpgggcaaGreatDoorRefusalWholeQ7
set_option linter.unusedSimpArgs false
set_option linter.unusedVariables false
-- Print
namespace Go.Proofs.YtcpjkemjpgggcaaGreatDoor
open Go.RowKit Civ
/-- Hours, minutes and seconds of a part of a day. -/
def clockB (r : Int) : ByteArray := padB (r / 3600) 2 ++ ⟨#[58]⟩ ++ padB (r / 60 % 60) 2 ++ ⟨#[58]⟩ ++ padB (r % 60) 2
theorem pad_size (n wide : Int) (h : -9223372036854775808 ≤ n) (h' : n ≤ 9223372036854775807) : (padB n wide).size ≤ 90 := by
  have := textB_size n h h'
  unfold padB
  split
  · omega
  · rw [ByteArray.size_append, zerosB_size]; omega
end Go.Proofs.YtcpjkemjpgggcaaGreatDoor
-- DPrint
namespace Go.Proofs.YtcpjkemjpgggcaaGreatDoor
open Go.RowKit Civ
set_option maxRecDepth 100000 in
theorem hpatterns_any (w : World) : Calls Tryz.prog 103 #[] w fun e w' => e = .returned (.agg #[.string ⟨#[119, 44, 32, 100, 32, 109, 32, 121, 32, 116, 32, 122]⟩, .string ⟨#[87, 44, 32, 100, 45, 109, 45, 107, 32, 116, 32, 122]⟩, .string ⟨#[119, 32, 109, 32, 98, 32, 116, 32, 121]⟩]) ∧ Below w.heap.size w w' := by
  go_enter Tryz.func103, Tryz.ntmps103
  go_wp2_with fail
  exact bodyPost_ret (results_cell_row Tryz.results103 _ _ _ _ _ _ _ rfl (heap_alloc_new _ _) Tryz.underlying132 rfl (by kernel_rfl)) rfl ⟨rfl, (Below.refl _ _).alloc (Nat.le_refl _) _⟩
set_option maxRecDepth 100000 in
theorem hdays_any (w : World) : Calls Tryz.prog 104 #[] w fun e w' => e = .returned (.agg #[.string ⟨#[83, 117, 110, 100, 97, 121]⟩, .string ⟨#[77, 111, 110, 100, 97, 121]⟩, .string ⟨#[84, 117, 101, 115, 100, 97, 121]⟩, .string ⟨#[87, 101, 100, 110, 101, 115, 100, 97, 121]⟩, .string ⟨#[84, 104, 117, 114, 115, 100, 97, 121]⟩, .string ⟨#[70, 114, 105, 100, 97, 121]⟩, .string ⟨#[83, 97, 116, 117, 114, 100, 97, 121]⟩]) ∧ Below w.heap.size w w' := by
  go_enter Tryz.func104, Tryz.ntmps104
  go_wp2_with fail
  exact bodyPost_ret (results_cell_row Tryz.results104 _ _ _ _ _ _ _ rfl (heap_alloc_new _ _) Tryz.underlying134 rfl (by kernel_rfl)) rfl ⟨rfl, (Below.refl _ _).alloc (Nat.le_refl _) _⟩
set_option maxRecDepth 100000 in
theorem hmonths_any (w : World) : Calls Tryz.prog 107 #[] w fun e w' => e = .returned (.agg #[.string ⟨#[74, 97, 110]⟩, .string ⟨#[70, 101, 98]⟩, .string ⟨#[77, 97, 114]⟩, .string ⟨#[65, 112, 114]⟩, .string ⟨#[77, 97, 121]⟩, .string ⟨#[74, 117, 110]⟩, .string ⟨#[74, 117, 108]⟩, .string ⟨#[65, 117, 103]⟩, .string ⟨#[83, 101, 112]⟩, .string ⟨#[79, 99, 116]⟩, .string ⟨#[78, 111, 118]⟩, .string ⟨#[68, 101, 99]⟩]) ∧ Below w.heap.size w w' := by
  go_enter Tryz.func107, Tryz.ntmps107
  go_wp2_with fail
  exact bodyPost_ret (results_cell_row Tryz.results107 _ _ _ _ _ _ _ rfl (heap_alloc_new _ _) Tryz.underlying137 rfl (by kernel_rfl)) rfl ⟨rfl, (Below.refl _ _).alloc (Nat.le_refl _) _⟩
set_option maxRecDepth 100000 in
theorem print_none (s : Int) (hx : ∀ W : World, Calls Tryz.prog 101 #[.int .i64 s] W fun e w' => e = .returned (.tuple #[dateV 0 0 0 0, .bool false]) ∧ Below W.heap.size W w') (w : World) : Calls Tryz.prog 65 #[.int .i64 s] w fun e w' => e = .returned (.string ⟨#[]⟩) ∧ Below w.heap.size w w' := by
  have HX : Hid (∀ W : World, Calls Tryz.prog 101 #[.int .i64 s] W fun e w' => e = .returned (.tuple #[.agg #[.int .i64 0, .int .i64 0, .int .i64 0, .int .i64 0, .int .i64 0, .int .i64 0], .bool false]) ∧ Below W.heap.size W w') := hx
  clear hx
  go_enter Tryz.func65, Tryz.ntmps65
  go_wp2_with (go_at_call 101; refine (HX.out _).mono ?_; rintro e' w' ⟨rfl, hb⟩; have HB := Lib.hid hb; clear hb)
  go_ret
  exact ⟨rfl, HB.out.alloc HB.out.size _⟩
end Go.Proofs.YtcpjkemjpgggcaaGreatDoor

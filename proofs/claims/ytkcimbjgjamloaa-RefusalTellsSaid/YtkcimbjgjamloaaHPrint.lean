/- Package httpdate: its tables and Print. -/
import Derived.Test.YtkcimbjgjamloaaCivilD
import Derived.Test.YtkcimbjgjamloaaPrint
namespace Go.Proofs.Ytkcimbjgjamloaa
open Go.RowKit Civ
theorem hpatterns_any (w : World) : Calls Try.prog 42 #[] w fun e w' => e = .returned (.agg #[.string ⟨#[119, 44, 32, 100, 32, 109, 32, 121, 32, 116, 32, 122]⟩, .string ⟨#[87, 44, 32, 100, 45, 109, 45, 107, 32, 116, 32, 122]⟩, .string ⟨#[119, 32, 109, 32, 98, 32, 116, 32, 121]⟩]) ∧ Below w.heap.size w w' := by
  go_enter Try.func42, Try.ntmps42
  go_wp2_with fail
  exact bodyPost_ret (results_cell_row Try.results42 _ _ _ _ _ _ _ rfl (heap_alloc_new _ _) Try.underlying77 rfl (by kernel_rfl)) rfl ⟨rfl, (Below.refl _ _).alloc (Nat.le_refl _) _⟩
theorem hdays_any (w : World) : Calls Try.prog 43 #[] w fun e w' => e = .returned (.agg #[.string ⟨#[83, 117, 110, 100, 97, 121]⟩, .string ⟨#[77, 111, 110, 100, 97, 121]⟩, .string ⟨#[84, 117, 101, 115, 100, 97, 121]⟩, .string ⟨#[87, 101, 100, 110, 101, 115, 100, 97, 121]⟩, .string ⟨#[84, 104, 117, 114, 115, 100, 97, 121]⟩, .string ⟨#[70, 114, 105, 100, 97, 121]⟩, .string ⟨#[83, 97, 116, 117, 114, 100, 97, 121]⟩]) ∧ Below w.heap.size w w' := by
  go_enter Try.func43, Try.ntmps43
  go_wp2_with fail
  exact bodyPost_ret (results_cell_row Try.results43 _ _ _ _ _ _ _ rfl (heap_alloc_new _ _) Try.underlying79 rfl (by kernel_rfl)) rfl ⟨rfl, (Below.refl _ _).alloc (Nat.le_refl _) _⟩
theorem hmonths_any (w : World) : Calls Try.prog 46 #[] w fun e w' => e = .returned (.agg #[.string ⟨#[74, 97, 110]⟩, .string ⟨#[70, 101, 98]⟩, .string ⟨#[77, 97, 114]⟩, .string ⟨#[65, 112, 114]⟩, .string ⟨#[77, 97, 121]⟩, .string ⟨#[74, 117, 110]⟩, .string ⟨#[74, 117, 108]⟩, .string ⟨#[65, 117, 103]⟩, .string ⟨#[83, 101, 112]⟩, .string ⟨#[79, 99, 116]⟩, .string ⟨#[78, 111, 118]⟩, .string ⟨#[68, 101, 99]⟩]) ∧ Below w.heap.size w w' := by
  go_enter Try.func46, Try.ntmps46
  go_wp2_with fail
  exact bodyPost_ret (results_cell_row Try.results46 _ _ _ _ _ _ _ rfl (heap_alloc_new _ _) Try.underlying82 rfl (by kernel_rfl)) rfl ⟨rfl, (Below.refl _ _).alloc (Nat.le_refl _) _⟩
theorem print_none (s : Int) (hx : ∀ W : World, Calls Try.prog 40 #[.int .i64 s] W fun e w' => e = .returned (.tuple #[dateV 0 0 0 0, .bool false]) ∧ Below W.heap.size W w') (w : World) : Calls Try.prog 32 #[.int .i64 s] w fun e w' => e = .returned (.string ⟨#[]⟩) ∧ Below w.heap.size w w' := by
  have HX : Hid (∀ W : World, Calls Try.prog 40 #[.int .i64 s] W fun e w' => e = .returned (.tuple #[.agg #[.int .i64 0, .int .i64 0, .int .i64 0, .int .i64 0, .int .i64 0, .int .i64 0], .bool false]) ∧ Below W.heap.size W w') := hx
  clear hx
  go_enter Try.func32, Try.ntmps32
  go_wp2_with (go_at_call 40; refine (HX.out _).mono ?_; rintro e' w' ⟨rfl, hb⟩; have HB := Lib.hid hb; clear hb)
  go_ret
  exact ⟨rfl, HB.out.alloc HB.out.size _⟩
theorem rprint_none (s : Int) (hx : ∀ W : World, Calls Try.prog 47 #[.int .i64 s] W fun e w' => e = .returned (.tuple #[dateV 0 0 0 0, .bool false]) ∧ Below W.heap.size W w') (w : World) : Calls Try.prog 34 #[.int .i64 s] w fun e w' => e = .returned (.string ⟨#[]⟩) ∧ Below w.heap.size w w' := by
  have HX : Hid (∀ W : World, Calls Try.prog 47 #[.int .i64 s] W fun e w' => e = .returned (.tuple #[.agg #[.int .i64 0, .int .i64 0, .int .i64 0, .int .i64 0, .int .i64 0, .int .i64 0], .bool false]) ∧ Below W.heap.size W w') := hx
  clear hx
  go_enter Try.func34, Try.ntmps34
  go_wp2_with (go_at_call 47; refine (HX.out _).mono ?_; rintro e' w' ⟨rfl, hb⟩; have HB := Lib.hid hb; clear hb)
  go_ret
  exact ⟨rfl, HB.out.alloc HB.out.size _⟩
end Go.Proofs.Ytkcimbjgjamloaa

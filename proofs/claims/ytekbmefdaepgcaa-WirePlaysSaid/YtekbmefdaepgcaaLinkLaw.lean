/- Package link's New; package abutmentlaw38's few and lives. -/
import Derived.Test.YtekbmefdaepgcaaLinkActs
namespace Go.Proofs.Ytekbmefdaepgcaa
open Go.RowKit
set_option maxHeartbeats 1000000 in
theorem lnew_any (most : Nat) (hm : most ≤ 65536) (w : World) : Calls Try.prog 19 #[.int .i64 most] w fun e w' =>
    ∃ b d, e = .returned (.pointer (some ⟨b, 0, none⟩)) ∧ IsL w' b d ∧ d.I = [] ∧ d.O = [] ∧ d.more = ⟨#[]⟩ ∧ d.ended = false ∧ d.shut = false ∧ d.most = most ∧ (∀ i, d.blocks b i → w.heap.size ≤ i) ∧ Below w.heap.size w w' := by
  go_enter Try.func19, Try.ntmps19
  go_wp2_with fail
  refine (qnew_any most hm w).mono ?_
  rintro e w1 ⟨rfl, q1, b1, z1⟩
  have Q1 := Lib.hid q1
  have B1 := Lib.hid b1
  have Z1 := Lib.hid z1
  clear q1 b1 z1
  go_wp2_with fail
  refine (qnew_any most hm w1).mono ?_
  rintro e w2 ⟨rfl, q2, b2, z2⟩
  have Q2 := Lib.hid q2
  have B2 := Lib.hid b2
  have Z2 := Lib.hid z2
  clear q2 b2 z2
  go_wp2_with fail
  go_ret
  have hz1 := Z1.out
  have hz2 := Z2.out
  have q1 := Q1.out.touch (Touch.of_below B2.out) (P := fun _ => False) id id
  have q2 := Q2.out
  refine ⟨w2.heap.size, ⟨w.heap.size + 1, w.heap.size, w1.heap.size + 1, w1.heap.size, most, [], [], ⟨#[]⟩, false, false⟩, rfl, ⟨?_, ?_, ?_, ?_, ?_⟩, rfl, rfl, rfl, rfl, rfl, rfl, ?_, ?_⟩
  · exact Blk.new _ _ _
  · exact q1.touch (P := fun _ => False) ((Touch.refl _ _).alloc _) id id
  · exact q2.touch (P := fun _ => False) ((Touch.refl _ _).alloc _) id id
  · show w.heap.size + 1 ≠ w1.heap.size + 1; omega
  · show w.heap.size ≠ w1.heap.size; omega
  · rintro i (e | e | e | e | e)  <;> (first | omega | (simp only at e; omega))
  · exact (B1.out.trans (B2.out.mono B1.out.size)).alloc (by omega) _
set_option maxHeartbeats 1000000 in
theorem lnew_low (most : Int) (hm : most < 0) (w : World) : Calls Try.prog 19 #[.int .i64 most] w fun e w' => e = .returned (.pointer none) ∧ w = w' := by
  go_enter Try.func19, Try.ntmps19
  go_wp2_with fail
  refine (qnew_low most hm w).mono ?_
  rintro e w1 ⟨rfl, rfl⟩
  go_wp2_with fail
  refine (qnew_low most hm w).mono ?_
  rintro e w1 ⟨rfl, rfl⟩
  go_wp2_with fail
  go_ret
  exact ⟨rfl, rfl⟩
set_option maxHeartbeats 1000000 in
theorem lnew_high (most : Int) (hm : 65536 < most) (w : World) : Calls Try.prog 19 #[.int .i64 most] w fun e w' => e = .returned (.pointer none) ∧ w = w' := by
  go_enter Try.func19, Try.ntmps19
  go_wp2_with fail
  refine (qnew_high most hm w).mono ?_
  rintro e w1 ⟨rfl, rfl⟩
  go_wp2_with fail
  refine (qnew_high most hm w).mono ?_
  rintro e w1 ⟨rfl, rfl⟩
  go_wp2_with fail
  go_ret
  exact ⟨rfl, rfl⟩
end Go.Proofs.Ytekbmefdaepgcaa

/- The walk of QueueOrder: the other ways. -/
import Derived.Test.YtmkjkodblincbaaQueueOrder
namespace Go.Proofs.Ytmkjkodblincbaa
open Go.RowKit
set_option maxHeartbeats 2000000 in
set_option maxRecDepth 100000 in
theorem qorder_low {w : World} {A : Option Addr} {len cap : Nat} {l : List GAct} {most : Int} (hm : most < 0) :
    Calls Try.prog 6 #[.int .i64 most, .slice A len cap] w fun e w' => e = .returned (.bool true) ∧ Below w.heap.size w w' := by
  have bz : Below w.heap.size w (w.alloc (.cells #[.slice none 0 0, .int .i64 0, .int .i64 0] 57)) := (Below.refl _ _).alloc (Nat.le_refl _) _
  have m0 : decide (most < 0) = true := by simpa using hm
  have BZ := Lib.hid bz
  clear bz
  have N0 := Lib.hid (show ∀ W : World, Nought W none from fun _ => .inl rfl)
  have NZ := Lib.hid (show Nought (w.alloc (.cells #[.slice none 0 0, .int .i64 0, .int .i64 0] 57)) (some ⟨w.heap.size, 0, none⟩) from .inr ⟨_, rfl, Blk.new _ _ _⟩)
  have hj : (⟨#[]⟩ : ByteArray) ++ ⟨#[]⟩ = ⟨#[]⟩ := by decide
  have hee : (⟨#[]⟩ : ByteArray).toList.isEmpty = true := by rw [← decide_eq_emptyBytes]; exact decide_eq_true rfl
  go_enter Try.func6, Try.ntmps6
  go_wp2_with fail
  refine (put_nought (N0.out _) ⟨#[97]⟩ (by decide)).mono ?_
  rintro e w' ⟨rfl, rfl⟩
  go_wp2_with fail
  refine (put_nought NZ.out ⟨#[97]⟩ (by decide)).mono ?_
  rintro e w' ⟨rfl, rfl⟩
  go_wp2_with fail
  refine (len_nought (N0.out _)).mono ?_
  rintro e w' ⟨rfl, rfl⟩
  go_wp2_with fail
  refine (len_nought NZ.out).mono ?_
  rintro e w' ⟨rfl, rfl⟩
  go_wp2_with fail
  refine (room_nought (N0.out _)).mono ?_
  rintro e w' ⟨rfl, rfl⟩
  go_wp2_with fail
  refine (room_nought NZ.out).mono ?_
  rintro e w' ⟨rfl, rfl⟩
  go_wp2_with fail
  refine (most_nought (N0.out _)).mono ?_
  rintro e w' ⟨rfl, rfl⟩
  go_wp2_with fail
  refine (most_nought NZ.out).mono ?_
  rintro e w' ⟨rfl, rfl⟩
  go_wp2_with fail
  refine (take_nought (N0.out _) 5 (by omega)).mono ?_
  rintro e w' ⟨rfl, rfl⟩
  go_wp2_with fail
  refine (take_nought NZ.out 5 (by omega)).mono ?_
  rintro e w' ⟨rfl, rfl⟩
  go_wp2_with fail
  refine (peek_nought (N0.out _) 5 (by omega)).mono ?_
  rintro e w' ⟨rfl, rfl⟩
  go_wp2_with fail
  refine (peek_nought NZ.out 5 (by omega)).mono ?_
  rintro e w' ⟨rfl, rfl⟩
  go_wp2_with fail
  clear hj hee
  refine (qlives _).mono ?_
  rintro e w' ⟨rfl, hb2⟩
  go_wp2_with fail
  go_ret
  exact ⟨rfl, BZ.out.trans (hb2.mono (by simp))⟩
set_option maxHeartbeats 2000000 in
set_option maxRecDepth 100000 in
theorem qorder_high {w : World} {A : Option Addr} {len cap : Nat} {l : List GAct} {most : Int} (hm : 2000 < most) :
    Calls Try.prog 6 #[.int .i64 most, .slice A len cap] w fun e w' => e = .returned (.bool true) ∧ Below w.heap.size w w' := by
  have bz : Below w.heap.size w (w.alloc (.cells #[.slice none 0 0, .int .i64 0, .int .i64 0] 57)) := (Below.refl _ _).alloc (Nat.le_refl _) _
  have m0 : decide (most < 0) = false := by simp; omega
  have m2 : decide (2000 < most) = true := by simp; omega
  have BZ := Lib.hid bz
  clear bz
  have N0 := Lib.hid (show ∀ W : World, Nought W none from fun _ => .inl rfl)
  have NZ := Lib.hid (show Nought (w.alloc (.cells #[.slice none 0 0, .int .i64 0, .int .i64 0] 57)) (some ⟨w.heap.size, 0, none⟩) from .inr ⟨_, rfl, Blk.new _ _ _⟩)
  have hj : (⟨#[]⟩ : ByteArray) ++ ⟨#[]⟩ = ⟨#[]⟩ := by decide
  have hee : (⟨#[]⟩ : ByteArray).toList.isEmpty = true := by rw [← decide_eq_emptyBytes]; exact decide_eq_true rfl
  go_enter Try.func6, Try.ntmps6
  go_wp2_with fail
  refine (put_nought (N0.out _) ⟨#[97]⟩ (by decide)).mono ?_
  rintro e w' ⟨rfl, rfl⟩
  go_wp2_with fail
  refine (put_nought NZ.out ⟨#[97]⟩ (by decide)).mono ?_
  rintro e w' ⟨rfl, rfl⟩
  go_wp2_with fail
  refine (len_nought (N0.out _)).mono ?_
  rintro e w' ⟨rfl, rfl⟩
  go_wp2_with fail
  refine (len_nought NZ.out).mono ?_
  rintro e w' ⟨rfl, rfl⟩
  go_wp2_with fail
  refine (room_nought (N0.out _)).mono ?_
  rintro e w' ⟨rfl, rfl⟩
  go_wp2_with fail
  refine (room_nought NZ.out).mono ?_
  rintro e w' ⟨rfl, rfl⟩
  go_wp2_with fail
  refine (most_nought (N0.out _)).mono ?_
  rintro e w' ⟨rfl, rfl⟩
  go_wp2_with fail
  refine (most_nought NZ.out).mono ?_
  rintro e w' ⟨rfl, rfl⟩
  go_wp2_with fail
  refine (take_nought (N0.out _) 5 (by omega)).mono ?_
  rintro e w' ⟨rfl, rfl⟩
  go_wp2_with fail
  refine (take_nought NZ.out 5 (by omega)).mono ?_
  rintro e w' ⟨rfl, rfl⟩
  go_wp2_with fail
  refine (peek_nought (N0.out _) 5 (by omega)).mono ?_
  rintro e w' ⟨rfl, rfl⟩
  go_wp2_with fail
  refine (peek_nought NZ.out 5 (by omega)).mono ?_
  rintro e w' ⟨rfl, rfl⟩
  go_wp2_with fail
  clear hj hee
  refine (qlives _).mono ?_
  rintro e w' ⟨rfl, hb2⟩
  go_wp2_with fail
  go_ret
  exact ⟨rfl, BZ.out.trans (hb2.mono (by simp))⟩
set_option maxHeartbeats 2000000 in
set_option maxRecDepth 100000 in
theorem qorder_many {w : World} {A : Option Addr} {len cap : Nat} {l : List GAct} {most : Int} (h : Acts w A len l) (hlm : len ≤ 9223372036854775807) (hf : (decide (len ≤ 60) && l.all short) = false) (hm : 0 ≤ most) (hm2 : most ≤ 2000) :
    Calls Try.prog 6 #[.int .i64 most, .slice A len cap] w fun e w' => e = .returned (.bool true) ∧ Below w.heap.size w w' := by
  have bz : Below w.heap.size w (w.alloc (.cells #[.slice none 0 0, .int .i64 0, .int .i64 0] 57)) := (Below.refl _ _).alloc (Nat.le_refl _) _
  have m0 : decide (most < 0) = false := by simp; omega
  have m2 : decide (2000 < most) = false := by simp; omega
  have H := Lib.hid (h.below bz)
  have HF := Lib.hid hf
  clear h hf
  have BZ := Lib.hid bz
  clear bz
  have N0 := Lib.hid (show ∀ W : World, Nought W none from fun _ => .inl rfl)
  have NZ := Lib.hid (show Nought (w.alloc (.cells #[.slice none 0 0, .int .i64 0, .int .i64 0] 57)) (some ⟨w.heap.size, 0, none⟩) from .inr ⟨_, rfl, Blk.new _ _ _⟩)
  have hj : (⟨#[]⟩ : ByteArray) ++ ⟨#[]⟩ = ⟨#[]⟩ := by decide
  have hee : (⟨#[]⟩ : ByteArray).toList.isEmpty = true := by rw [← decide_eq_emptyBytes]; exact decide_eq_true rfl
  go_enter Try.func6, Try.ntmps6
  go_wp2_with fail
  refine (put_nought (N0.out _) ⟨#[97]⟩ (by decide)).mono ?_
  rintro e w' ⟨rfl, rfl⟩
  go_wp2_with fail
  refine (put_nought NZ.out ⟨#[97]⟩ (by decide)).mono ?_
  rintro e w' ⟨rfl, rfl⟩
  go_wp2_with fail
  refine (len_nought (N0.out _)).mono ?_
  rintro e w' ⟨rfl, rfl⟩
  go_wp2_with fail
  refine (len_nought NZ.out).mono ?_
  rintro e w' ⟨rfl, rfl⟩
  go_wp2_with fail
  refine (room_nought (N0.out _)).mono ?_
  rintro e w' ⟨rfl, rfl⟩
  go_wp2_with fail
  refine (room_nought NZ.out).mono ?_
  rintro e w' ⟨rfl, rfl⟩
  go_wp2_with fail
  refine (most_nought (N0.out _)).mono ?_
  rintro e w' ⟨rfl, rfl⟩
  go_wp2_with fail
  refine (most_nought NZ.out).mono ?_
  rintro e w' ⟨rfl, rfl⟩
  go_wp2_with fail
  refine (take_nought (N0.out _) 5 (by omega)).mono ?_
  rintro e w' ⟨rfl, rfl⟩
  go_wp2_with fail
  refine (take_nought NZ.out 5 (by omega)).mono ?_
  rintro e w' ⟨rfl, rfl⟩
  go_wp2_with fail
  refine (peek_nought (N0.out _) 5 (by omega)).mono ?_
  rintro e w' ⟨rfl, rfl⟩
  go_wp2_with fail
  refine (peek_nought NZ.out 5 (by omega)).mono ?_
  rintro e w' ⟨rfl, rfl⟩
  go_wp2_with fail
  clear hj hee
  refine (few_all H.out hlm).mono ?_
  rintro e wf ⟨rfl, bf⟩
  rw [HF.out]
  have bfz := bf.size
  go_wp2_with fail
  refine (qlives _).mono ?_
  rintro e w' ⟨rfl, hb2⟩
  go_wp2_with fail
  go_ret
  exact ⟨rfl, (BZ.out.trans (bf.mono (by simp))).trans (hb2.mono (by simp at bfz; omega))⟩
theorem qorder_any {w : World} {A : Option Addr} {len cap : Nat} {l : List GAct} {most : Int} (h : Acts w A len l) (hlm : len ≤ 9223372036854775807) :
    Calls Try.prog 6 #[.int .i64 most, .slice A len cap] w fun e w' => e = .returned (.bool true) ∧ Below w.heap.size w w' := by
  by_cases h0 : most < 0
  · exact qorder_low (l := l) h0
  by_cases h2 : 2000 < most
  · exact qorder_high (l := l) h2
  cases hf : (decide (len ≤ 60) && l.all short) with
  | false => exact qorder_many h hlm hf (by omega) (by omega)
  | true =>
    rw [Bool.and_eq_true, decide_eq_true_eq] at hf
    obtain ⟨m, rfl⟩ := Int.eq_ofNat_of_zero_le (show 0 ≤ most by omega)
    exact qorder_main h hf.1 hf.2 (by omega)
end Go.Proofs.Ytmkjkodblincbaa

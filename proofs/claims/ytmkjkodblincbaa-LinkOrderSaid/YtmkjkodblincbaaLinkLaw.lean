/- Package link's New; package abutmentlaw38's few and lives. -/
import Derived.Test.YtmkjkodblincbaaLinkActs
namespace Go.Proofs.Ytmkjkodblincbaa
open Go.RowKit
set_option maxHeartbeats 1000000 in
theorem lnew_any (most : Nat) (hm : most ≤ 65536) (w : World) : Calls Try.prog 30 #[.int .i64 most] w fun e w' =>
    ∃ b d, e = .returned (.pointer (some ⟨b, 0, none⟩)) ∧ IsL w' b d ∧ d.I = [] ∧ d.O = [] ∧ d.more = ⟨#[]⟩ ∧ d.ended = false ∧ d.shut = false ∧ d.most = most ∧ (∀ i, d.blocks b i → w.heap.size ≤ i) ∧ Below w.heap.size w w' := by
  go_enter Try.func30, Try.ntmps30
  go_wp2_with fail
  refine (qnew_any most hm w).mono ?_
  rintro e w1 ⟨rfl, q1, b1, z1⟩
  have Q1 := Lib.hid q1
  have B1 := Lib.hid b1
  have Z1 := Lib.hid z1
  clear q1 b1 z1
  go_wp2_with fail
  refine (qnew_any most hm w1).mono ?_
  rintro e w2 ⟨rfl, q2, b2, z2⟩
  have Q2 := Lib.hid q2
  have B2 := Lib.hid b2
  have Z2 := Lib.hid z2
  clear q2 b2 z2
  go_wp2_with fail
  go_ret
  have hz1 := Z1.out
  have hz2 := Z2.out
  have q1 := Q1.out.touch (Touch.of_below B2.out) (P := fun _ => False) id id
  have q2 := Q2.out
  refine ⟨w2.heap.size, ⟨w.heap.size + 1, w.heap.size, w1.heap.size + 1, w1.heap.size, most, [], [], ⟨#[]⟩, false, false⟩, rfl, ⟨?_, ?_, ?_, ?_, ?_⟩, rfl, rfl, rfl, rfl, rfl, rfl, ?_, ?_⟩
  · exact Blk.new _ _ _
  · exact q1.touch (P := fun _ => False) ((Touch.refl _ _).alloc _) id id
  · exact q2.touch (P := fun _ => False) ((Touch.refl _ _).alloc _) id id
  · show w.heap.size + 1 ≠ w1.heap.size + 1; omega
  · show w.heap.size ≠ w1.heap.size; omega
  · rintro i (e | e | e | e | e)  <;> (first | omega | (simp only at e; omega))
  · exact (B1.out.trans (B2.out.mono B1.out.size)).alloc (by omega) _
set_option maxHeartbeats 1000000 in
theorem lnew_low (most : Int) (hm : most < 0) (w : World) : Calls Try.prog 30 #[.int .i64 most] w fun e w' => e = .returned (.pointer none) ∧ w = w' := by
  go_enter Try.func30, Try.ntmps30
  go_wp2_with fail
  refine (qnew_low most hm w).mono ?_
  rintro e w1 ⟨rfl, rfl⟩
  go_wp2_with fail
  refine (qnew_low most hm w).mono ?_
  rintro e w1 ⟨rfl, rfl⟩
  go_wp2_with fail
  go_ret
  exact ⟨rfl, rfl⟩
set_option maxHeartbeats 1000000 in
theorem lnew_high (most : Int) (hm : 65536 < most) (w : World) : Calls Try.prog 30 #[.int .i64 most] w fun e w' => e = .returned (.pointer none) ∧ w = w' := by
  go_enter Try.func30, Try.ntmps30
  go_wp2_with fail
  refine (qnew_high most hm w).mono ?_
  rintro e w1 ⟨rfl, rfl⟩
  go_wp2_with fail
  refine (qnew_high most hm w).mono ?_
  rintro e w1 ⟨rfl, rfl⟩
  go_wp2_with fail
  go_ret
  exact ⟨rfl, rfl⟩
set_option maxHeartbeats 1000000 in
theorem lfew_any {w : World} {A : Option Addr} {len cap : Nat} {l : List GAct} (h : Acts w A len l) (hl : len ≤ 60) :
    Calls Try.prog 29 #[.slice A len cap] w fun e w' => e = .returned (.bool (l.all short)) ∧ Below w.heap.size w w' := by
  have H := Lib.hid h
  clear h
  rcases Nat.eq_zero_or_pos len with rfl | h0
  · have : l = [] := List.eq_nil_of_length_eq_zero H.out.length
    rw [this]
    go_enter Try.func29, Try.ntmps29
    go_wp2
    refine wp_loop_rounds 1 ?_
    rw [rounds_succ]
    go_wp2
    go_ret
    exact ⟨rfl, Below.refl _ _⟩
  obtain ⟨b, off, rfl, hb, hc⟩ := H.out.cells h0
  have HC := Lib.hid hc
  clear hc
  go_enter Try.func29, Try.ntmps29
  go_wp2_with fail
  go_loopw [10] (fun i wr => ∃ k : Nat, k ≤ len ∧ i = .int .i64 k ∧ (l.take k).all short = true ∧ Below w.heap.size w wr) (fun i _ => len - (intOf i).toNat)
  case atStart => exact ⟨0, Nat.zero_le _, rfl, rfl, Below.refl _ _⟩
  case round =>
    obtain ⟨k, hk, rfl, hall, hnx⟩ := hrel
    by_cases hlt : k < len
    · have hkl : k < l.length := by have := H.out.length; omega
      have hget := List.getElem?_eq_getElem hkl
      obtain ⟨c1, c2, c3⟩ := HC.out k _ hget
      have c1 := (bcell hnx _ _ hb).trans c1
      have c2 := (bcell hnx _ _ hb).trans c2
      have c3 := (bcell hnx _ _ hb).trans c3
      have hz := hnx.size
      have hall2 : (l.take (k + 1)).all short = short l[k] := by rw [List.take_succ_eq_append_getElem hkl, List.all_append, hall]; simp
      have hall3 : short l[k] = false → l.all short = false := fun hf => by
        rw [List.all_eq_false]
        exact ⟨l[k], List.getElem_mem hkl, by rw [hf]; simp⟩
      have HA := Lib.hid hall2
      have HA3 := Lib.hid hall3
      clear hall2 hall3 hget hall
      obtain ⟨a, ha⟩ : ∃ a, a = l[k] := ⟨_, rfl⟩
      rw [← ha] at c1 c2 c3 HA HA3
      clear ha
      by_cases hs : a.text.size ≤ 300
      · have hs2 : short a = true := decide_eq_true hs
        have HS := Lib.hid hs2
        clear hs2
        go_wp2
        go_roundw
        case rel => exact ⟨k + 1, by omega, by go_num, by rw [HA.out, HS.out], hnx.alloc (by omega) _⟩
        case measure => simp [intOf]; omega
      · have hs2 : short a = false := decide_eq_false hs
        have HS := Lib.hid hs2
        clear hs2
        go_wp2
        go_ret
        refine ⟨?_, hnx.alloc (by omega) _⟩
        rw [HA3.out HS.out]
        rfl
    · go_wp2
      go_ret
      refine ⟨?_, hnx⟩
      rw [← List.take_of_length_le (l := l) (i := k) (by have := H.out.length; omega), hall]
      rfl
theorem lfew_long {w : World} {A : Option Addr} {len cap : Nat} (hl : 60 < len) (hm : len ≤ 9223372036854775807) :
    Calls Try.prog 29 #[.slice A len cap] w fun e w' => e = .returned (.bool false) ∧ w = w' := by
  go_enter Try.func29, Try.ntmps29
  go_wp2
  go_ret
  exact ⟨rfl, rfl⟩
/-- What few answers, for any number of calls. -/
theorem lfew_all {w : World} {A : Option Addr} {len cap : Nat} {l : List GAct} (h : Acts w A len l) (hm : len ≤ 9223372036854775807) :
    Calls Try.prog 29 #[.slice A len cap] w fun e w' => e = .returned (.bool (decide (len ≤ 60) && l.all short)) ∧ Below w.heap.size w w' := by
  by_cases hl : len ≤ 60
  · refine (lfew_any h hl).mono ?_
    rintro e w' ⟨rfl, hb⟩
    exact ⟨by rw [decide_eq_true hl, Bool.true_and], hb⟩
  · refine (lfew_long (by omega) hm).mono ?_
    rintro e w' ⟨rfl, rfl⟩
    exact ⟨by rw [decide_eq_false hl, Bool.false_and], Below.refl _ _⟩
end Go.Proofs.Ytmkjkodblincbaa

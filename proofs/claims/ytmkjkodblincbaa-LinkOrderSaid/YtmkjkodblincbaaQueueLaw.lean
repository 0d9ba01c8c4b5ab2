/- Package abutmentlaw03's own calls: few and lives; New of package queue. -/
import Derived.Test.YtmkjkodblincbaaQueueRef
import Derived.Deep.OwnRows
namespace Go.Proofs.Ytmkjkodblincbaa
open Go.RowKit Go.Deep
theorem made_bytes (n : Nat) : madeCells #[Value.int .u8 0] n = bys (List.replicate n 0) := by
  apply Array.toList_inj.1
  rw [bys, Lib.byteCells]
  simp [madeCells, Nat.mod_one]
  rw [List.eq_replicate_iff]
  simp
theorem qnew_any (most : Nat) (hm : most ≤ 65536) (w : World) : Calls Try.prog 18 #[.int .i64 most] w fun e w' =>
    e = .returned (.pointer (some ⟨w.heap.size + 1, 0, none⟩)) ∧ Que w' (w.heap.size + 1) w.heap.size most [] ∧ Below w.heap.size w w' ∧ w'.heap.size = w.heap.size + 2 := by
  have hmk : ∀ W : World, (Instr.makeSlice 55 (.int .i64 most) (.int .i64 most)).run Try.prog W = .ok (.slice (some ⟨W.heap.size, 0, none⟩) most most) (W.alloc (.cells (bys (List.replicate most 0)) 5)) := fun W => by
    rw [← made_bytes]
    exact run_make_row' 55 5 (.int .u8 0) 1 Try.underlying55 (by kernel_rfl) rfl .i64 .i64 most (by omega) (by omega) W
  go_enter Try.func18, Try.ntmps18
  go_wp2
  go_ret
  refine ⟨rfl, ⟨List.replicate most 0, 0, 0, ⟨?_, ?_, ?_, Nat.zero_le _, by simpa using hm⟩, by simp, rfl⟩, by go_grown, by simp⟩
  · rw [List.length_replicate]; exact Blk.new' (by simp)
  · exact (Blk.new _ _ _).alloc _
  · simp; omega
theorem qnew_low (most : Int) (hm : most < 0) (w : World) : Calls Try.prog 18 #[.int .i64 most] w fun e w' => e = .returned (.pointer none) ∧ w = w' := by
  go_enter Try.func18, Try.ntmps18
  go_wp2
  go_ret
  exact ⟨rfl, rfl⟩
theorem qnew_high (most : Int) (hm : 65536 < most) (w : World) : Calls Try.prog 18 #[.int .i64 most] w fun e w' => e = .returned (.pointer none) ∧ w = w' := by
  have h0 : 0 ≤ most := by omega
  go_enter Try.func18, Try.ntmps18
  go_wp2
  go_ret
  exact ⟨rfl, rfl⟩
/-- A step of a play: what to do, a number, a text. -/
structure GAct where
  op : Int
  n : Int
  text : ByteArray
/-- A slice of such steps, as it lies in memory. -/
structure Acts (w : World) (A : Option Addr) (len : Nat) (l : List GAct) : Prop where
  length : l.length = len
  cells : 0 < len → ∃ b off, A = some ⟨b, off, none⟩ ∧ b < w.heap.size ∧ ∀ i a, l[i]? = some a → w.cell? ⟨b, off + i * 3, none⟩ = some (.int .i64 a.op) ∧ w.cell? ⟨b, off + i * 3 + 1, none⟩ = some (.int .i64 a.n) ∧ w.cell? ⟨b, off + i * 3 + 2, none⟩ = some (.string a.text)
  fits : ∀ a ∈ l, -9223372036854775808 ≤ a.op ∧ a.op ≤ 9223372036854775807 ∧ -9223372036854775808 ≤ a.n ∧ a.n ≤ 9223372036854775807 ∧ a.text.size ≤ 9223372036854775807
theorem Acts.below {w w1 : World} {A : Option Addr} {len : Nat} {l : List GAct} (h : Acts w A len l) (hb : Below w.heap.size w w1) : Acts w1 A len l :=
  ⟨h.length, fun hl => by
    obtain ⟨b, off, e, hlt, hc⟩ := h.cells hl
    have := hb.size
    exact ⟨b, off, e, by omega, fun i a ha => by
      have h3 := hc i a ha
      rw [bcell hb _ _ hlt, bcell hb _ _ hlt, bcell hb _ _ hlt]
      exact h3⟩, h.fits⟩
theorem Acts.get {w wr : World} {b off len : Nat} {l : List GAct} (h : Acts w (some ⟨b, off, none⟩) len l) (hnx : Below w.heap.size w wr) {k : Nat} (hk : k < len) :
    ∃ a, a ∈ l ∧ wr.cell? ⟨b, off + k * 3, none⟩ = some (.int .i64 a.op) ∧ wr.cell? ⟨b, off + k * 3 + 1, none⟩ = some (.int .i64 a.n) ∧ wr.cell? ⟨b, off + k * 3 + 2, none⟩ = some (.string a.text) ∧
      -9223372036854775808 ≤ a.op ∧ a.op ≤ 9223372036854775807 ∧ -9223372036854775808 ≤ a.n ∧ a.n ≤ 9223372036854775807 ∧ a.text.size ≤ 9223372036854775807 := by
  have hkl : k < l.length := by have := h.length; omega
  obtain ⟨b', off', e, hb, hc⟩ := h.cells (by omega)
  simp only [Option.some.injEq, Addr.mk.injEq, and_true] at e
  obtain ⟨rfl, rfl⟩ := e
  obtain ⟨c1, c2, c3⟩ := hc k _ (List.getElem?_eq_getElem hkl)
  exact ⟨l[k], List.getElem_mem hkl, (bcell hnx _ _ hb).trans c1, (bcell hnx _ _ hb).trans c2, (bcell hnx _ _ hb).trans c3, h.fits l[k] (List.getElem_mem hkl)⟩
def short (a : GAct) : Bool := decide (a.text.size ≤ 300)
set_option maxHeartbeats 1000000 in
theorem few_any {w : World} {A : Option Addr} {len cap : Nat} {l : List GAct} (h : Acts w A len l) (hl : len ≤ 60) :
    Calls Try.prog 17 #[.slice A len cap] w fun e w' => e = .returned (.bool (l.all short)) ∧ Below w.heap.size w w' := by
  have H := Lib.hid h
  clear h
  rcases Nat.eq_zero_or_pos len with rfl | h0
  · have : l = [] := List.eq_nil_of_length_eq_zero H.out.length
    rw [this]
    go_enter Try.func17, Try.ntmps17
    go_wp2
    refine wp_loop_rounds 1 ?_
    rw [rounds_succ]
    go_wp2
    go_ret
    exact ⟨rfl, Below.refl _ _⟩
  obtain ⟨b, off, rfl, hb, hc⟩ := H.out.cells h0
  have HC := Lib.hid hc
  clear hc
  go_enter Try.func17, Try.ntmps17
  go_wp2_with fail
  go_loopw [10] (fun i wr => ∃ k : Nat, k ≤ len ∧ i = .int .i64 k ∧ (l.take k).all short = true ∧ Below w.heap.size w wr) (fun i _ => len - (intOf i).toNat)
  case atStart => exact ⟨0, Nat.zero_le _, rfl, rfl, Below.refl _ _⟩
  case round =>
    obtain ⟨k, hk, rfl, hall, hnx⟩ := hrel
    by_cases hlt : k < len
    · have hkl : k < l.length := by have := H.out.length; omega
      have hget := List.getElem?_eq_getElem hkl
      obtain ⟨c1, c2, c3⟩ := HC.out k _ hget
      have c1 := (bcell hnx _ _ hb).trans c1
      have c2 := (bcell hnx _ _ hb).trans c2
      have c3 := (bcell hnx _ _ hb).trans c3
      have hz := hnx.size
      have hall2 : (l.take (k + 1)).all short = short l[k] := by rw [List.take_succ_eq_append_getElem hkl, List.all_append, hall]; simp
      have hall3 : short l[k] = false → l.all short = false := fun hf => by
        rw [List.all_eq_false]
        exact ⟨l[k], List.getElem_mem hkl, by rw [hf]; simp⟩
      have HA := Lib.hid hall2
      have HA3 := Lib.hid hall3
      clear hall2 hall3 hget hall
      obtain ⟨a, ha⟩ : ∃ a, a = l[k] := ⟨_, rfl⟩
      rw [← ha] at c1 c2 c3 HA HA3
      clear ha
      by_cases hs : a.text.size ≤ 300
      · have hs2 : short a = true := decide_eq_true hs
        have HS := Lib.hid hs2
        clear hs2
        go_wp2
        go_roundw
        case rel => exact ⟨k + 1, by omega, by go_num, by rw [HA.out, HS.out], hnx.alloc (by omega) _⟩
        case measure => simp [intOf]; omega
      · have hs2 : short a = false := decide_eq_false hs
        have HS := Lib.hid hs2
        clear hs2
        go_wp2
        go_ret
        refine ⟨?_, hnx.alloc (by omega) _⟩
        rw [HA3.out HS.out]
        rfl
    · go_wp2
      go_ret
      refine ⟨?_, hnx⟩
      rw [← List.take_of_length_le (l := l) (i := k) (by have := H.out.length; omega), hall]
      rfl
theorem few_long {w : World} {A : Option Addr} {len cap : Nat} (hl : 60 < len) (hm : len ≤ 9223372036854775807) :
    Calls Try.prog 17 #[.slice A len cap] w fun e w' => e = .returned (.bool false) ∧ w = w' := by
  go_enter Try.func17, Try.ntmps17
  go_wp2
  go_ret
  exact ⟨rfl, rfl⟩
theorem put_at {w : World} {b g most : Nat} {S : List UInt8} (h : Que w b g most S) (s : ByteArray) (hs : s.size ≤ 9223372036854775807) (k : Int) (S' : List UInt8) (hk : k = (min s.size (most - S.length) : Nat)) (hS : S' = S ++ s.data.toList.take (most - S.length)) :
    Calls Try.prog 20 #[.pointer (some ⟨b, 0, none⟩), .string s] w fun e w' => e = .returned (.int .i64 k) ∧ Que w' b g most S' ∧ Touch (fun i => i = b ∨ i = g) w w' := by
  rw [hk, hS]; exact put_any h s hs
theorem take_at {w : World} {b g most : Nat} {S : List UInt8} (h : Que w b g most S) (k : Int) (hk : k ≤ 9223372036854775807) (sv : ByteArray) (S' : List UInt8) (hs : sv = ⟨(S.take k.toNat).toArray⟩) (hS : S' = S.drop k.toNat) :
    Calls Try.prog 22 #[.pointer (some ⟨b, 0, none⟩), .int .i64 k] w fun e w' => e = .returned (.string sv) ∧ Que w' b g most S' ∧ Touch (fun i => i = b ∨ i = g) w w' := by
  rw [hs, hS]; exact take_any h k hk
set_option maxHeartbeats 1000000 in
theorem qlives (w : World) : Calls Try.prog 19 #[] w fun e w' => e = .returned (.bool true) ∧ Below w.heap.size w w' := by
  go_enter Try.func19, Try.ntmps19
  go_wp2_with fail
  refine (qnew_any 3 (by omega) _).mono ?_
  rintro e w1 ⟨rfl, q1, b1, z1⟩
  have B1 := Lib.hid b1
  have Q1 := Lib.hid q1
  clear b1 q1 z1
  go_wp2_with fail
  refine (put_at Q1.out ⟨#[97, 98, 99, 100]⟩ (by decide) 3 [97, 98, 99] rfl rfl).mono ?_
  rintro e w2 ⟨rfl, q2, t2⟩
  have Q2 := Lib.hid q2
  have T2 := Lib.hid t2
  clear q2 t2
  go_wp2_with fail
  refine (take_at Q2.out 2 (by omega) ⟨#[97, 98]⟩ [99] rfl rfl).mono ?_
  rintro e w3 ⟨rfl, q3, t3⟩
  have Q3 := Lib.hid q3
  have T3 := Lib.hid t3
  clear q3 t3
  go_wp2_with fail
  refine (put_at Q3.out ⟨#[120, 121]⟩ (by decide) 2 [99, 120, 121] rfl rfl).mono ?_
  rintro e w4 ⟨rfl, q4, t4⟩
  have Q4 := Lib.hid q4
  have T4 := Lib.hid t4
  clear q4 t4
  go_wp2_with fail
  refine (take_at Q4.out 9 (by omega) ⟨#[99, 120, 121]⟩ [] rfl rfl).mono ?_
  rintro e w5 ⟨rfl, q5, t5⟩
  have T5 := Lib.hid t5
  clear q5 t5
  go_wp2_with fail
  refine (qnew_low (-1) (by omega) _).mono ?_
  rintro e w6 ⟨rfl, rfl⟩
  go_wp2_with fail
  refine (qnew_high 65537 (by omega) _).mono ?_
  rintro e w6 ⟨rfl, rfl⟩
  go_wp2_with fail
  go_ret
  refine ⟨rfl, B1.out.trans ?_⟩
  exact (((T2.out.trans T3.out).trans T4.out).trans T5.out).below (fun k _ h => by omega) B1.out.size
end Go.Proofs.Ytmkjkodblincbaa

/- Package abutmentlaw03's own calls: few and lives; New of package queue. -/
import Derived.Test.YtekbmefdaepgcaaQueueRef
import Derived.Deep.OwnRows
namespace Go.Proofs.Ytekbmefdaepgcaa
open Go.RowKit Go.Deep
theorem made_bytes (n : Nat) : madeCells #[Value.int .u8 0] n = bys (List.replicate n 0) := by
  apply Array.toList_inj.1
  rw [bys, Lib.byteCells]
  simp [madeCells, Nat.mod_one]
  rw [List.eq_replicate_iff]
  simp
theorem qnew_any (most : Nat) (hm : most ≤ 65536) (w : World) : Calls Try.prog 61 #[.int .i64 most] w fun e w' =>
    e = .returned (.pointer (some ⟨w.heap.size + 1, 0, none⟩)) ∧ Que w' (w.heap.size + 1) w.heap.size most [] ∧ Below w.heap.size w w' ∧ w'.heap.size = w.heap.size + 2 := by
  have hmk : ∀ W : World, (Instr.makeSlice 97 (.int .i64 most) (.int .i64 most)).run Try.prog W = .ok (.slice (some ⟨W.heap.size, 0, none⟩) most most) (W.alloc (.cells (bys (List.replicate most 0)) 5)) := fun W => by
    rw [← made_bytes]
    exact run_make_row' 97 5 (.int .u8 0) 1 Try.underlying97 (by kernel_rfl) rfl .i64 .i64 most (by omega) (by omega) W
  go_enter Try.func61, Try.ntmps61
  go_wp2
  go_ret
  refine ⟨rfl, ⟨List.replicate most 0, 0, 0, ⟨?_, ?_, ?_, Nat.zero_le _, by simpa using hm⟩, by simp, rfl⟩, by go_grown, by simp⟩
  · rw [List.length_replicate]; exact Blk.new' (by simp)
  · exact (Blk.new _ _ _).alloc _
  · simp; omega
theorem qnew_low (most : Int) (hm : most < 0) (w : World) : Calls Try.prog 61 #[.int .i64 most] w fun e w' => e = .returned (.pointer none) ∧ w = w' := by
  go_enter Try.func61, Try.ntmps61
  go_wp2
  go_ret
  exact ⟨rfl, rfl⟩
theorem qnew_high (most : Int) (hm : 65536 < most) (w : World) : Calls Try.prog 61 #[.int .i64 most] w fun e w' => e = .returned (.pointer none) ∧ w = w' := by
  have h0 : 0 ≤ most := by omega
  go_enter Try.func61, Try.ntmps61
  go_wp2
  go_ret
  exact ⟨rfl, rfl⟩
/-- A step of a play: what to do, a number, a text. -/
structure GAct where
  op : Int
  n : Int
  text : ByteArray
/-- A slice of such steps, as it lies in memory. -/
structure Acts (w : World) (A : Option Addr) (len : Nat) (l : List GAct) : Prop where
  length : l.length = len
  cells : 0 < len → ∃ b off, A = some ⟨b, off, none⟩ ∧ b < w.heap.size ∧ ∀ i a, l[i]? = some a → w.cell? ⟨b, off + i * 3, none⟩ = some (.int .i64 a.op) ∧ w.cell? ⟨b, off + i * 3 + 1, none⟩ = some (.int .i64 a.n) ∧ w.cell? ⟨b, off + i * 3 + 2, none⟩ = some (.string a.text)
  fits : ∀ a ∈ l, -9223372036854775808 ≤ a.op ∧ a.op ≤ 9223372036854775807 ∧ -9223372036854775808 ≤ a.n ∧ a.n ≤ 9223372036854775807 ∧ a.text.size ≤ 9223372036854775807
theorem Acts.below {w w1 : World} {A : Option Addr} {len : Nat} {l : List GAct} (h : Acts w A len l) (hb : Below w.heap.size w w1) : Acts w1 A len l :=
  ⟨h.length, fun hl => by
    obtain ⟨b, off, e, hlt, hc⟩ := h.cells hl
    have := hb.size
    exact ⟨b, off, e, by omega, fun i a ha => by
      have h3 := hc i a ha
      rw [bcell hb _ _ hlt, bcell hb _ _ hlt, bcell hb _ _ hlt]
      exact h3⟩, h.fits⟩
theorem Acts.get {w wr : World} {b off len : Nat} {l : List GAct} (h : Acts w (some ⟨b, off, none⟩) len l) (hnx : Below w.heap.size w wr) {k : Nat} (hk : k < len) :
    ∃ a, a ∈ l ∧ wr.cell? ⟨b, off + k * 3, none⟩ = some (.int .i64 a.op) ∧ wr.cell? ⟨b, off + k * 3 + 1, none⟩ = some (.int .i64 a.n) ∧ wr.cell? ⟨b, off + k * 3 + 2, none⟩ = some (.string a.text) ∧
      -9223372036854775808 ≤ a.op ∧ a.op ≤ 9223372036854775807 ∧ -9223372036854775808 ≤ a.n ∧ a.n ≤ 9223372036854775807 ∧ a.text.size ≤ 9223372036854775807 := by
  have hkl : k < l.length := by have := h.length; omega
  obtain ⟨b', off', e, hb, hc⟩ := h.cells (by omega)
  simp only [Option.some.injEq, Addr.mk.injEq, and_true] at e
  obtain ⟨rfl, rfl⟩ := e
  obtain ⟨c1, c2, c3⟩ := hc k _ (List.getElem?_eq_getElem hkl)
  exact ⟨l[k], List.getElem_mem hkl, (bcell hnx _ _ hb).trans c1, (bcell hnx _ _ hb).trans c2, (bcell hnx _ _ hb).trans c3, h.fits l[k] (List.getElem_mem hkl)⟩
def short (a : GAct) : Bool := decide (a.text.size ≤ 300)
theorem put_at {w : World} {b g most : Nat} {S : List UInt8} (h : Que w b g most S) (s : ByteArray) (hs : s.size ≤ 9223372036854775807) (k : Int) (S' : List UInt8) (hk : k = (min s.size (most - S.length) : Nat)) (hS : S' = S ++ s.data.toList.take (most - S.length)) :
    Calls Try.prog 131 #[.pointer (some ⟨b, 0, none⟩), .string s] w fun e w' => e = .returned (.int .i64 k) ∧ Que w' b g most S' ∧ Touch (fun i => i = b ∨ i = g) w w' := by
  rw [hk, hS]; exact put_any h s hs
theorem take_at {w : World} {b g most : Nat} {S : List UInt8} (h : Que w b g most S) (k : Int) (hk : k ≤ 9223372036854775807) (sv : ByteArray) (S' : List UInt8) (hs : sv = ⟨(S.take k.toNat).toArray⟩) (hS : S' = S.drop k.toNat) :
    Calls Try.prog 110 #[.pointer (some ⟨b, 0, none⟩), .int .i64 k] w fun e w' => e = .returned (.string sv) ∧ Que w' b g most S' ∧ Touch (fun i => i = b ∨ i = g) w w' := by
  rw [hs, hS]; exact take_any h k hk
end Go.Proofs.Ytekbmefdaepgcaa

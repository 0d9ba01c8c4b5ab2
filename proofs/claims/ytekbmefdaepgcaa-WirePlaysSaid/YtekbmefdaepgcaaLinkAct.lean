/- Package abutmentlaw38's act: a call on a link and on the reference's link. -/
import Derived.Test.YtekbmefdaepgcaaLinkRef
namespace Go.Proofs.Ytekbmefdaepgcaa
open Go.RowKit
theorem LD.fill_out (d : LD) : d.fill.O ++ d.fill.more.data.toList = d.O ++ d.more.data.toList := by
  have hb := bsize d.more
  show (d.O ++ d.more.data.toList.take (d.most - d.O.length)) ++ (d.more.extract (min d.more.size (d.most - d.O.length)) d.more.size).data.toList = _
  rw [data_extract, List.take_of_length_le (l := List.drop _ _) (by rw [List.length_drop]; omega), List.append_assoc]
  congr 1
  by_cases h : d.more.size ≤ d.most - d.O.length
  · rw [List.take_of_length_le (by omega), List.drop_of_length_le (by omega), List.append_nil]
  · rw [show min d.more.size (d.most - d.O.length) = d.most - d.O.length from by omega, List.take_append_drop]
theorem LD.fill_full (d : LD) (h : d.O.length ≤ d.most) (h0 : 0 < d.fill.more.size) : d.fill.O.length = d.fill.most := by
  have hb := bsize d.more
  have h1 : 0 < (d.more.extract (min d.more.size (d.most - d.O.length)) d.more.size).size := h0
  rw [ByteArray.size_extract] at h1
  show (d.O ++ d.more.data.toList.take (d.most - d.O.length)).length = d.most
  rw [List.length_append, List.length_take]
  omega
theorem LD.took_out (d : LD) (n : Int) : (d.took n).O ++ (d.took n).more.data.toList = (d.O ++ d.more.data.toList).drop n.toNat := by
  have hb := bsize d.more
  show d.O.drop n.toNat ++ (d.more.extract (d.rest n) d.more.size).data.toList = _
  rw [data_extract, List.take_of_length_le (l := List.drop _ _) (by rw [List.length_drop]; omega), List.drop_append]
  congr 1
  unfold LD.rest
  by_cases h : n.toNat - d.O.length ≤ d.more.size
  · rw [Nat.min_eq_left h]
  · rw [List.drop_of_length_le (by omega), List.drop_of_length_le (by omega)]
/-- A link and the reference's, that tell the same. -/
structure Pair (w : World) (b rb : Nat) (d : LD) (In Out : ByteArray) : Prop where
  l : IsL w b d
  r : Rl w rb In Out d.most d.ended d.shut
  i : In.data.toList = d.I
  o : Out.data.toList = d.O ++ d.more.data.toList
  f : 0 < d.more.size → d.O.length = d.most
theorem Pair.far {P : Nat → Prop} {w w1 : World} {b rb : Nat} {d : LD} {In Out : ByteArray} (h : Pair w b rb d In Out) (t : Touch P w w1) (hP : ∀ i, d.blocks b i → ¬ P i) (hr : ¬ P rb) : Pair w1 b rb d In Out :=
  ⟨h.l.far t hP, h.r.touch t hr, h.i, h.o, h.f⟩
theorem Pair.apart {w : World} {b rb : Nat} {d : LD} {In Out : ByteArray} (h : Pair w b rb d In Out) : ¬ d.blocks b rb := by
  obtain ⟨_, a1⟩ := h.l.inq.head
  obtain ⟨_, a2⟩ := h.l.inq.rowb
  obtain ⟨_, a3⟩ := h.l.outq.head
  obtain ⟨_, a4⟩ := h.l.outq.rowb
  rintro (e | e | e | e | e)
  · exact (Blk.ne h.r h.l.head (by decide)) e
  · exact (Blk.ne h.r a1 (by decide)) e
  · exact (Blk.ne h.r a2 (by decide)) e
  · exact (Blk.ne h.r a3 (by decide)) e
  · exact (Blk.ne h.r a4 (by decide)) e
theorem Pair.inle {w : World} {b rb : Nat} {d : LD} {In Out : ByteArray} (h : Pair w b rb d In Out) : In.size ≤ d.most := by
  have := h.l.inq.le
  have h2 := bsize In
  rw [h.i] at h2
  omega
def SameB (d d' : LD) : Prop := d'.bi = d.bi ∧ d'.gi = d.gi ∧ d'.bo = d.bo ∧ d'.go = d.go ∧ d'.most = d.most
def ActPost (w : World) (b rb : Nat) (d : LD) (z : Nat) (v : Value) (e : Ending) (w' : World) : Prop :=
  e = .returned v ∧ ∃ d' In' Out', Pair w' b rb d' In' Out' ∧ SameB d d' ∧ Out'.size ≤ z ∧ Touch (fun i => d.blocks b i ∨ i = rb) w w'
end Go.Proofs.Ytekbmefdaepgcaa

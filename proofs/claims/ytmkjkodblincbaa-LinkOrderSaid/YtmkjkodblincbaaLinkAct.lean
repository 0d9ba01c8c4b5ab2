/- Package abutmentlaw38's act: a call on a link and on the reference's link. -/
import Derived.Test.YtmkjkodblincbaaLinkRef
namespace Go.Proofs.Ytmkjkodblincbaa
open Go.RowKit
theorem LD.fill_out (d : LD) : d.fill.O ++ d.fill.more.data.toList = d.O ++ d.more.data.toList := by
  have hb := bsize d.more
  show (d.O ++ d.more.data.toList.take (d.most - d.O.length)) ++ (d.more.extract (min d.more.size (d.most - d.O.length)) d.more.size).data.toList = _
  rw [data_extract, List.take_of_length_le (l := List.drop _ _) (by rw [List.length_drop]; omega), List.append_assoc]
  congr 1
  by_cases h : d.more.size ≤ d.most - d.O.length
  · rw [List.take_of_length_le (by omega), List.drop_of_length_le (by omega), List.append_nil]
  · rw [show min d.more.size (d.most - d.O.length) = d.most - d.O.length from by omega, List.take_append_drop]
theorem LD.fill_full (d : LD) (h : d.O.length ≤ d.most) (h0 : 0 < d.fill.more.size) : d.fill.O.length = d.fill.most := by
  have hb := bsize d.more
  have h1 : 0 < (d.more.extract (min d.more.size (d.most - d.O.length)) d.more.size).size := h0
  rw [ByteArray.size_extract] at h1
  show (d.O ++ d.more.data.toList.take (d.most - d.O.length)).length = d.most
  rw [List.length_append, List.length_take]
  omega
theorem LD.took_out (d : LD) (n : Int) : (d.took n).O ++ (d.took n).more.data.toList = (d.O ++ d.more.data.toList).drop n.toNat := by
  have hb := bsize d.more
  show d.O.drop n.toNat ++ (d.more.extract (d.rest n) d.more.size).data.toList = _
  rw [data_extract, List.take_of_length_le (l := List.drop _ _) (by rw [List.length_drop]; omega), List.drop_append]
  congr 1
  unfold LD.rest
  by_cases h : n.toNat - d.O.length ≤ d.more.size
  · rw [Nat.min_eq_left h]
  · rw [List.drop_of_length_le (by omega), List.drop_of_length_le (by omega)]
/-- A link and the reference's, that tell the same. -/
structure Pair (w : World) (b rb : Nat) (d : LD) (In Out : ByteArray) : Prop where
  l : IsL w b d
  r : Rl w rb In Out d.most d.ended d.shut
  i : In.data.toList = d.I
  o : Out.data.toList = d.O ++ d.more.data.toList
  f : 0 < d.more.size → d.O.length = d.most
theorem Pair.far {P : Nat → Prop} {w w1 : World} {b rb : Nat} {d : LD} {In Out : ByteArray} (h : Pair w b rb d In Out) (t : Touch P w w1) (hP : ∀ i, d.blocks b i → ¬ P i) (hr : ¬ P rb) : Pair w1 b rb d In Out :=
  ⟨h.l.far t hP, h.r.touch t hr, h.i, h.o, h.f⟩
theorem Pair.apart {w : World} {b rb : Nat} {d : LD} {In Out : ByteArray} (h : Pair w b rb d In Out) : ¬ d.blocks b rb := by
  obtain ⟨_, a1⟩ := h.l.inq.head
  obtain ⟨_, a2⟩ := h.l.inq.rowb
  obtain ⟨_, a3⟩ := h.l.outq.head
  obtain ⟨_, a4⟩ := h.l.outq.rowb
  rintro (e | e | e | e | e)
  · exact (Blk.ne h.r h.l.head (by decide)) e
  · exact (Blk.ne h.r a1 (by decide)) e
  · exact (Blk.ne h.r a2 (by decide)) e
  · exact (Blk.ne h.r a3 (by decide)) e
  · exact (Blk.ne h.r a4 (by decide)) e
theorem Pair.inle {w : World} {b rb : Nat} {d : LD} {In Out : ByteArray} (h : Pair w b rb d In Out) : In.size ≤ d.most := by
  have := h.l.inq.le
  have h2 := bsize In
  rw [h.i] at h2
  omega
def SameB (d d' : LD) : Prop := d'.bi = d.bi ∧ d'.gi = d.gi ∧ d'.bo = d.bo ∧ d'.go = d.go ∧ d'.most = d.most
def ActPost (w : World) (b rb : Nat) (d : LD) (z : Nat) (v : Value) (e : Ending) (w' : World) : Prop :=
  e = .returned v ∧ ∃ d' In' Out', Pair w' b rb d' In' Out' ∧ SameB d d' ∧ Out'.size ≤ z ∧ Touch (fun i => d.blocks b i ∨ i = rb) w w'
set_option maxHeartbeats 1000000 in
theorem act_other {w : World} {b rb : Nat} {d : LD} {In Out : ByteArray} (h : Pair w b rb d In Out) (op n : Int) (x : ByteArray) (hn0 : -9223372036854775808 ≤ n) (hn : n ≤ 9223372036854775807) (hx : x.size ≤ 300) (hO : Out.size ≤ 18000) (ho : op < 1 ∨ 6 < op) :
    Calls Try.prog 32 #[.pointer (some ⟨b, 0, none⟩), .pointer (some ⟨rb, 0, none⟩), .agg #[.int .i64 op, .int .i64 n, .string x]] w (ActPost w b rb d (Out.size + x.size) (.bool true)) := by
  have hap := h.apart
  have hin := h.inle
  have hqm := h.l.qm
  have hlt := Lib.hid h.l.lt
  have hrlt : rb < w.heap.size := Blk.lt h.r
  have hmz : d.more.size ≤ Out.size := by
    have h1 := bsize Out
    rw [h.o, List.length_append, bsize] at h1
    omega
  have hcb : ¬ (d.blocks b w.heap.size) := fun hb => by have := hlt.out _ hb; omega
  have HW := Lib.hid (h.far (P := fun _ => False) ((Touch.refl _ w).alloc (.cells #[.int .i64 op, .int .i64 n, .string x] 64)) (fun _ _ => id) id)
  have CW := Lib.hid (Blk.new w #[.int .i64 op, .int .i64 n, .string x] 64)
  have T0 := Lib.hid ((Touch.refl (fun i => d.blocks b i ∨ i = rb) w).alloc (.cells #[.int .i64 op, .int .i64 n, .string x] 64))
  obtain ⟨W, hW⟩ : ∃ W, W = w.alloc (.cells #[.int .i64 op, .int .i64 n, .string x] 64) := ⟨_, rfl⟩
  rw [← hW] at HW CW T0
  have cw1 : W.cell? ⟨w.heap.size, 1, none⟩ = some (.int .i64 n) := CW.out.cell 1
  have cw2 : W.cell? ⟨w.heap.size, 2, none⟩ = some (.string x) := CW.out.cell 2
  have H := Lib.hid h
  have HWE := Lib.hid hW
  clear h hW
  have e1 : (op == 1) = false := by rw [beq_eq_false_iff_ne]; omega
  have e2 : (op == 2) = false := by rw [beq_eq_false_iff_ne]; omega
  have e3 : (op == 3) = false := by rw [beq_eq_false_iff_ne]; omega
  have e4 : (op == 4) = false := by rw [beq_eq_false_iff_ne]; omega
  have e5 : (op == 5) = false := by rw [beq_eq_false_iff_ne]; omega
  have e6 : (op == 6) = false := by rw [beq_eq_false_iff_ne]; omega
  clear ho
  go_enter Try.func32, Try.ntmps32
  go_wp2_with fail
  go_ret
  exact ⟨rfl, d, In, Out, HWE.out ▸ HW.out, ⟨rfl, rfl, rfl, rfl, rfl⟩, Nat.le_add_right _ _, HWE.out ▸ T0.out⟩
set_option maxHeartbeats 1000000 in
theorem act_end {w : World} {b rb : Nat} {d : LD} {In Out : ByteArray} (h : Pair w b rb d In Out) (op n : Int) (x : ByteArray) (hn0 : -9223372036854775808 ≤ n) (hn : n ≤ 9223372036854775807) (hx : x.size ≤ 300) (hO : Out.size ≤ 18000) (ho : op = 2) :
    Calls Try.prog 32 #[.pointer (some ⟨b, 0, none⟩), .pointer (some ⟨rb, 0, none⟩), .agg #[.int .i64 op, .int .i64 n, .string x]] w (ActPost w b rb d (Out.size + x.size) (.bool true)) := by
  have hap := h.apart
  have hin := h.inle
  have hqm := h.l.qm
  have hlt := Lib.hid h.l.lt
  have hrlt : rb < w.heap.size := Blk.lt h.r
  have hmz : d.more.size ≤ Out.size := by
    have h1 := bsize Out
    rw [h.o, List.length_append, bsize] at h1
    omega
  have hcb : ¬ (d.blocks b w.heap.size) := fun hb => by have := hlt.out _ hb; omega
  have HW := Lib.hid (h.far (P := fun _ => False) ((Touch.refl _ w).alloc (.cells #[.int .i64 op, .int .i64 n, .string x] 64)) (fun _ _ => id) id)
  have CW := Lib.hid (Blk.new w #[.int .i64 op, .int .i64 n, .string x] 64)
  have T0 := Lib.hid ((Touch.refl (fun i => d.blocks b i ∨ i = rb) w).alloc (.cells #[.int .i64 op, .int .i64 n, .string x] 64))
  obtain ⟨W, hW⟩ : ∃ W, W = w.alloc (.cells #[.int .i64 op, .int .i64 n, .string x] 64) := ⟨_, rfl⟩
  rw [← hW] at HW CW T0
  have cw1 : W.cell? ⟨w.heap.size, 1, none⟩ = some (.int .i64 n) := CW.out.cell 1
  have cw2 : W.cell? ⟨w.heap.size, 2, none⟩ = some (.string x) := CW.out.cell 2
  have H := Lib.hid h
  have HWE := Lib.hid hW
  clear h hW
  have e1 : (op == 1) = false := by rw [beq_eq_false_iff_ne]; omega
  have e2 : (op == 2) = true := by rw [beq_iff_eq]; omega
  clear ho
  go_enter Try.func32, Try.ntmps32
  go_wp2_with fail
  rw [← HWE.out]
  refine (end_any HW.out.l).mono ?_
  rintro e w2 ⟨rfl, l2, t2⟩
  have r2 := HW.out.r.touch t2 hap
  have r3 : w2.cell? ⟨rb, 3, none⟩ = some (.bool d.ended) := Blk.cell r2 3
  have z3 : w2.frozen? ⟨rb, 3, none⟩ = false := Blk.froz r2 3
  go_wp2_with fail
  go_ret
  refine ⟨rfl, { d with ended := true }, In, Out, ⟨?_, Rl.set r2 3 _ rfl, H.out.i, H.out.o, H.out.f⟩, ⟨rfl, rfl, rfl, rfl, rfl⟩, Nat.le_add_right _ _, ?_⟩
  · exact l2.far (P := fun i => i = rb) (Touch.setCell (P := fun i => i = rb) (Touch.refl _ _) rfl _) (fun i hi e => hap (e ▸ hi))
  · exact Touch.setCell (P := fun i => d.blocks b i ∨ i = rb) (T0.out.trans (t2.mono fun _ _ h => .inl h)) (.inr rfl) _
set_option maxHeartbeats 1000000 in
theorem act_use {w : World} {b rb : Nat} {d : LD} {In Out : ByteArray} (h : Pair w b rb d In Out) (op n : Int) (x : ByteArray) (hn0 : -9223372036854775808 ≤ n) (hn : n ≤ 9223372036854775807) (hx : x.size ≤ 300) (hO : Out.size ≤ 18000) (ho : op = 3) :
    Calls Try.prog 32 #[.pointer (some ⟨b, 0, none⟩), .pointer (some ⟨rb, 0, none⟩), .agg #[.int .i64 op, .int .i64 n, .string x]] w (ActPost w b rb d (Out.size + x.size) (.bool true)) := by
  have hap := h.apart
  have hin := h.inle
  have hqm := h.l.qm
  have hlt := Lib.hid h.l.lt
  have hrlt : rb < w.heap.size := Blk.lt h.r
  have hmz : d.more.size ≤ Out.size := by
    have h1 := bsize Out
    rw [h.o, List.length_append, bsize] at h1
    omega
  have hcb : ¬ (d.blocks b w.heap.size) := fun hb => by have := hlt.out _ hb; omega
  have HW := Lib.hid (h.far (P := fun _ => False) ((Touch.refl _ w).alloc (.cells #[.int .i64 op, .int .i64 n, .string x] 64)) (fun _ _ => id) id)
  have CW := Lib.hid (Blk.new w #[.int .i64 op, .int .i64 n, .string x] 64)
  have T0 := Lib.hid ((Touch.refl (fun i => d.blocks b i ∨ i = rb) w).alloc (.cells #[.int .i64 op, .int .i64 n, .string x] 64))
  obtain ⟨W, hW⟩ : ∃ W, W = w.alloc (.cells #[.int .i64 op, .int .i64 n, .string x] 64) := ⟨_, rfl⟩
  rw [← hW] at HW CW T0
  have cw1 : W.cell? ⟨w.heap.size, 1, none⟩ = some (.int .i64 n) := CW.out.cell 1
  have cw2 : W.cell? ⟨w.heap.size, 2, none⟩ = some (.string x) := CW.out.cell 2
  have H := Lib.hid h
  have HWE := Lib.hid hW
  clear h hW
  have e1 : (op == 1) = false := by rw [beq_eq_false_iff_ne]; omega
  have e2 : (op == 2) = false := by rw [beq_eq_false_iff_ne]; omega
  have e3 : (op == 3) = true := by rw [beq_iff_eq]; omega
  clear ho
  go_enter Try.func32, Try.ntmps32
  go_wp2_with fail
  rw [← HWE.out]
  refine (use_any HW.out.l n hn).mono ?_
  rintro e w2 ⟨rfl, l2, t2⟩
  have r2 := HW.out.r.touch t2 hap
  have cw1' : w2.cell? ⟨w.heap.size, 1, none⟩ = some (.int .i64 n) := t2.cell (by exact hcb) cw1
  go_wp2_with fail
  refine (ruse_any r2 n (by omega) ⟨(In.data.toList.drop n.toNat).toArray⟩ rfl).mono ?_
  rintro e w3 ⟨rfl, r3, t3⟩
  go_wp2_with fail
  go_ret
  refine ⟨rfl, { d with I := d.I.drop n.toNat }, _, Out, ⟨?_, r3, by rw [← H.out.i], H.out.o, H.out.f⟩, ⟨rfl, rfl, rfl, rfl, rfl⟩, Nat.le_add_right _ _, ?_⟩
  · exact l2.far t3 (fun i hi e => hap (e ▸ hi))
  · exact (T0.out.trans (t2.mono fun _ _ h => .inl h)).trans (t3.mono fun _ _ h => .inr h)
set_option maxHeartbeats 1000000 in
theorem act_write_shut {w : World} {b rb : Nat} {d : LD} {In Out : ByteArray} (h : Pair w b rb d In Out) (op n : Int) (x : ByteArray) (hn0 : -9223372036854775808 ≤ n) (hn : n ≤ 9223372036854775807) (hx : x.size ≤ 300) (hO : Out.size ≤ 18000) (ho : op = 4) (hc : d.shut = true) :
    Calls Try.prog 32 #[.pointer (some ⟨b, 0, none⟩), .pointer (some ⟨rb, 0, none⟩), .agg #[.int .i64 op, .int .i64 n, .string x]] w (ActPost w b rb d (Out.size + x.size) (.bool true)) := by
  have hap := h.apart
  have hin := h.inle
  have hqm := h.l.qm
  have hlt := Lib.hid h.l.lt
  have hrlt : rb < w.heap.size := Blk.lt h.r
  have hmz : d.more.size ≤ Out.size := by
    have h1 := bsize Out
    rw [h.o, List.length_append, bsize] at h1
    omega
  have hcb : ¬ (d.blocks b w.heap.size) := fun hb => by have := hlt.out _ hb; omega
  have HW := Lib.hid (h.far (P := fun _ => False) ((Touch.refl _ w).alloc (.cells #[.int .i64 op, .int .i64 n, .string x] 64)) (fun _ _ => id) id)
  have CW := Lib.hid (Blk.new w #[.int .i64 op, .int .i64 n, .string x] 64)
  have T0 := Lib.hid ((Touch.refl (fun i => d.blocks b i ∨ i = rb) w).alloc (.cells #[.int .i64 op, .int .i64 n, .string x] 64))
  obtain ⟨W, hW⟩ : ∃ W, W = w.alloc (.cells #[.int .i64 op, .int .i64 n, .string x] 64) := ⟨_, rfl⟩
  rw [← hW] at HW CW T0
  have cw1 : W.cell? ⟨w.heap.size, 1, none⟩ = some (.int .i64 n) := CW.out.cell 1
  have cw2 : W.cell? ⟨w.heap.size, 2, none⟩ = some (.string x) := CW.out.cell 2
  have H := Lib.hid h
  have HWE := Lib.hid hW
  clear h hW
  have e1 : (op == 1) = false := by rw [beq_eq_false_iff_ne]; omega
  have e2 : (op == 2) = false := by rw [beq_eq_false_iff_ne]; omega
  have e3 : (op == 3) = false := by rw [beq_eq_false_iff_ne]; omega
  have e4 : (op == 4) = true := by rw [beq_iff_eq]; omega
  clear ho
  go_enter Try.func32, Try.ntmps32
  go_wp2_with fail
  rw [← HWE.out]
  refine (write_shut HW.out.l x hc).mono ?_
  rintro e w2 ⟨rfl, rfl⟩
  go_wp2_with fail
  refine (rwrite_shut HW.out.r x hc).mono ?_
  rintro e w2 ⟨rfl, rfl⟩
  go_wp2_with fail
  go_ret
  exact ⟨rfl, d, In, Out, HW.out, ⟨rfl, rfl, rfl, rfl, rfl⟩, Nat.le_add_right _ _, T0.out⟩
set_option maxHeartbeats 1000000 in
theorem act_write {w : World} {b rb : Nat} {d : LD} {In Out : ByteArray} (h : Pair w b rb d In Out) (op n : Int) (x : ByteArray) (hn0 : -9223372036854775808 ≤ n) (hn : n ≤ 9223372036854775807) (hx : x.size ≤ 300) (hO : Out.size ≤ 18000) (ho : op = 4) (hc : d.shut = false) :
    Calls Try.prog 32 #[.pointer (some ⟨b, 0, none⟩), .pointer (some ⟨rb, 0, none⟩), .agg #[.int .i64 op, .int .i64 n, .string x]] w (ActPost w b rb d (Out.size + x.size) (.bool true)) := by
  have hap := h.apart
  have hin := h.inle
  have hqm := h.l.qm
  have hlt := Lib.hid h.l.lt
  have hrlt : rb < w.heap.size := Blk.lt h.r
  have hmz : d.more.size ≤ Out.size := by
    have h1 := bsize Out
    rw [h.o, List.length_append, bsize] at h1
    omega
  have hcb : ¬ (d.blocks b w.heap.size) := fun hb => by have := hlt.out _ hb; omega
  have HW := Lib.hid (h.far (P := fun _ => False) ((Touch.refl _ w).alloc (.cells #[.int .i64 op, .int .i64 n, .string x] 64)) (fun _ _ => id) id)
  have CW := Lib.hid (Blk.new w #[.int .i64 op, .int .i64 n, .string x] 64)
  have T0 := Lib.hid ((Touch.refl (fun i => d.blocks b i ∨ i = rb) w).alloc (.cells #[.int .i64 op, .int .i64 n, .string x] 64))
  obtain ⟨W, hW⟩ : ∃ W, W = w.alloc (.cells #[.int .i64 op, .int .i64 n, .string x] 64) := ⟨_, rfl⟩
  rw [← hW] at HW CW T0
  have cw1 : W.cell? ⟨w.heap.size, 1, none⟩ = some (.int .i64 n) := CW.out.cell 1
  have cw2 : W.cell? ⟨w.heap.size, 2, none⟩ = some (.string x) := CW.out.cell 2
  have H := Lib.hid h
  have HWE := Lib.hid hW
  clear h hW
  have e1 : (op == 1) = false := by rw [beq_eq_false_iff_ne]; omega
  have e2 : (op == 2) = false := by rw [beq_eq_false_iff_ne]; omega
  have e3 : (op == 3) = false := by rw [beq_eq_false_iff_ne]; omega
  have e4 : (op == 4) = true := by rw [beq_iff_eq]; omega
  clear ho
  go_enter Try.func32, Try.ntmps32
  go_wp2_with fail
  rw [← HWE.out]
  refine (write_any HW.out.l x (by omega) hc).mono ?_
  rintro e w2 ⟨rfl, l2, t2⟩
  have r2 := HW.out.r.touch t2 hap
  have cw2' : w2.cell? ⟨w.heap.size, 2, none⟩ = some (.string x) := t2.cell (by exact hcb) cw2
  have HC := Lib.hid hc
  clear hc
  go_wp2_with fail
  refine (rwrite_any r2 x (by omega) HC.out).mono ?_
  rintro e w3 ⟨rfl, r3, t3⟩
  go_wp2_with fail
  go_ret
  refine ⟨rfl, LD.fill { d with more := d.more ++ x }, In, Out ++ x, ⟨?_, r3, H.out.i, ?_, ?_⟩, ⟨rfl, rfl, rfl, rfl, rfl⟩, by rw [ByteArray.size_append]; exact Nat.le_refl _, ?_⟩
  · exact l2.far t3 (fun i hi e => hap (e ▸ hi))
  · rw [LD.fill_out]
    simp only [data_append, H.out.o, List.append_assoc]
  · exact LD.fill_full _ H.out.l.outq.le
  · exact (T0.out.trans (t2.mono fun _ _ h => .inl h)).trans (t3.mono fun _ _ h => .inr h)
set_option maxHeartbeats 1000000 in
theorem act_shut {w : World} {b rb : Nat} {d : LD} {In Out : ByteArray} (h : Pair w b rb d In Out) (op n : Int) (x : ByteArray) (hn0 : -9223372036854775808 ≤ n) (hn : n ≤ 9223372036854775807) (hx : x.size ≤ 300) (hO : Out.size ≤ 18000) (ho : op = 6) :
    Calls Try.prog 32 #[.pointer (some ⟨b, 0, none⟩), .pointer (some ⟨rb, 0, none⟩), .agg #[.int .i64 op, .int .i64 n, .string x]] w (ActPost w b rb d (Out.size + x.size) (.bool true)) := by
  have hap := h.apart
  have hin := h.inle
  have hqm := h.l.qm
  have hlt := Lib.hid h.l.lt
  have hrlt : rb < w.heap.size := Blk.lt h.r
  have hmz : d.more.size ≤ Out.size := by
    have h1 := bsize Out
    rw [h.o, List.length_append, bsize] at h1
    omega
  have hcb : ¬ (d.blocks b w.heap.size) := fun hb => by have := hlt.out _ hb; omega
  have HW := Lib.hid (h.far (P := fun _ => False) ((Touch.refl _ w).alloc (.cells #[.int .i64 op, .int .i64 n, .string x] 64)) (fun _ _ => id) id)
  have CW := Lib.hid (Blk.new w #[.int .i64 op, .int .i64 n, .string x] 64)
  have T0 := Lib.hid ((Touch.refl (fun i => d.blocks b i ∨ i = rb) w).alloc (.cells #[.int .i64 op, .int .i64 n, .string x] 64))
  obtain ⟨W, hW⟩ : ∃ W, W = w.alloc (.cells #[.int .i64 op, .int .i64 n, .string x] 64) := ⟨_, rfl⟩
  rw [← hW] at HW CW T0
  have cw1 : W.cell? ⟨w.heap.size, 1, none⟩ = some (.int .i64 n) := CW.out.cell 1
  have cw2 : W.cell? ⟨w.heap.size, 2, none⟩ = some (.string x) := CW.out.cell 2
  have H := Lib.hid h
  have HWE := Lib.hid hW
  clear h hW
  have e1 : (op == 1) = false := by rw [beq_eq_false_iff_ne]; omega
  have e2 : (op == 2) = false := by rw [beq_eq_false_iff_ne]; omega
  have e3 : (op == 3) = false := by rw [beq_eq_false_iff_ne]; omega
  have e4 : (op == 4) = false := by rw [beq_eq_false_iff_ne]; omega
  have e5 : (op == 5) = false := by rw [beq_eq_false_iff_ne]; omega
  have e6 : (op == 6) = true := by rw [beq_iff_eq]; omega
  clear ho
  go_enter Try.func32, Try.ntmps32
  go_wp2_with fail
  rw [← HWE.out]
  refine (shut_any HW.out.l).mono ?_
  rintro e w2 ⟨rfl, l2, t2⟩
  have r2 := HW.out.r.touch t2 hap
  have k4 : w2.cell? ⟨rb, 4, none⟩ = some (.bool d.shut) := Blk.cell r2 4
  have z4 : w2.frozen? ⟨rb, 4, none⟩ = false := Blk.froz r2 4
  have k0 : w2.cell? ⟨rb, 0, none⟩ = some (.string In) := Blk.cell r2 0
  have z0 : w2.frozen? ⟨rb, 0, none⟩ = false := Blk.froz r2 0
  go_wp2_with fail
  go_ret
  refine ⟨rfl, { d with shut := true, I := [] }, ⟨#[]⟩, Out, ⟨?_, Rl.set (Rl.set r2 4 (.bool true) rfl) 0 _ rfl, rfl, H.out.o, H.out.f⟩, ⟨rfl, rfl, rfl, rfl, rfl⟩, Nat.le_add_right _ _, ?_⟩
  · exact l2.far (P := fun i => i = rb) (Touch.setCell (P := fun i => i = rb) (Touch.setCell (P := fun i => i = rb) (Touch.refl _ _) rfl _) rfl _) (fun i hi e => hap (e ▸ hi))
  · exact Touch.setCell (P := fun i => d.blocks b i ∨ i = rb) (Touch.setCell (P := fun i => d.blocks b i ∨ i = rb) (T0.out.trans (t2.mono fun _ _ h => .inl h)) (.inr rfl) _) (.inr rfl) _
end Go.Proofs.Ytmkjkodblincbaa

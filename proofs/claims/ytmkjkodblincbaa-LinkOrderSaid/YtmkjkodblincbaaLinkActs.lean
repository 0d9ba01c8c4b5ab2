/- Package abutmentlaw38's act: the calls that tell something. -/
import Derived.Test.YtmkjkodblincbaaLinkAct
namespace Go.Proofs.Ytmkjkodblincbaa
open Go.RowKit
set_option maxHeartbeats 1000000 in
theorem act_give_shut {w : World} {b rb : Nat} {d : LD} {In Out : ByteArray} (h : Pair w b rb d In Out) (op n : Int) (x : ByteArray) (hn0 : -9223372036854775808 ≤ n) (hn : n ≤ 9223372036854775807) (hx : x.size ≤ 300) (hO : Out.size ≤ 18000) (ho : op = 1) (hc : (d.ended || d.shut) = true) :
    Calls Try.prog 32 #[.pointer (some ⟨b, 0, none⟩), .pointer (some ⟨rb, 0, none⟩), .agg #[.int .i64 op, .int .i64 n, .string x]] w (ActPost w b rb d (Out.size + x.size) (.bool true)) := by
  have hap := h.apart
  have hin := h.inle
  have hqm := h.l.qm
  have hlt := Lib.hid h.l.lt
  have hrlt : rb < w.heap.size := Blk.lt h.r
  have hmz : d.more.size ≤ Out.size := by
    have h1 := bsize Out
    rw [h.o, List.length_append, bsize] at h1
    omega
  have hcb : ¬ (d.blocks b w.heap.size) := fun hb => by have := hlt.out _ hb; omega
  have HW := Lib.hid (h.far (P := fun _ => False) ((Touch.refl _ w).alloc (.cells #[.int .i64 op, .int .i64 n, .string x] 64)) (fun _ _ => id) id)
  have CW := Lib.hid (Blk.new w #[.int .i64 op, .int .i64 n, .string x] 64)
  have T0 := Lib.hid ((Touch.refl (fun i => d.blocks b i ∨ i = rb) w).alloc (.cells #[.int .i64 op, .int .i64 n, .string x] 64))
  obtain ⟨W, hW⟩ : ∃ W, W = w.alloc (.cells #[.int .i64 op, .int .i64 n, .string x] 64) := ⟨_, rfl⟩
  rw [← hW] at HW CW T0
  have cw1 : W.cell? ⟨w.heap.size, 1, none⟩ = some (.int .i64 n) := CW.out.cell 1
  have cw2 : W.cell? ⟨w.heap.size, 2, none⟩ = some (.string x) := CW.out.cell 2
  have H := Lib.hid h
  have HWE := Lib.hid hW
  clear h hW
  have e1 : (op == 1) = true := by rw [beq_iff_eq]; omega
  clear ho
  go_enter Try.func32, Try.ntmps32
  go_wp2_with fail
  rw [← HWE.out]
  go_region_held3 (fun w' => w'.cell? ⟨w.heap.size, 2, none⟩ = some (.string x)) (first | exact cw2 | assumption) ((first
    | (go_at_call 43; refine (give_shut (HW.out.l.far (P := fun _ => False) (Touch.refl _ W).drew (fun _ _ => id)) x hc).mono ?_; rintro e w2 ⟨rfl, rfl⟩)
    | (go_at_call 49; refine (rgive_shut (HW.out.r.touch (P := fun _ => False) (Touch.refl _ W).drew id) x hc).mono ?_; rintro e w2 ⟨rfl, rfl⟩)))
  go_wp2_with fail
  go_ret
  exact ⟨rfl, d, In, Out, HW.out.far (P := fun _ => False) (Touch.refl _ W).drew (fun _ _ => id) id, ⟨rfl, rfl, rfl, rfl, rfl⟩, Nat.le_add_right _ _, T0.out.drew⟩
set_option maxHeartbeats 1000000 in
theorem act_give {w : World} {b rb : Nat} {d : LD} {In Out : ByteArray} (h : Pair w b rb d In Out) (op n : Int) (x : ByteArray) (hn0 : -9223372036854775808 ≤ n) (hn : n ≤ 9223372036854775807) (hx : x.size ≤ 300) (hO : Out.size ≤ 18000) (ho : op = 1) (he : d.ended = false) (hc : d.shut = false) :
    Calls Try.prog 32 #[.pointer (some ⟨b, 0, none⟩), .pointer (some ⟨rb, 0, none⟩), .agg #[.int .i64 op, .int .i64 n, .string x]] w (ActPost w b rb d (Out.size + x.size) (.bool true)) := by
  have hap := h.apart
  have hin := h.inle
  have hqm := h.l.qm
  have hlt := Lib.hid h.l.lt
  have hrlt : rb < w.heap.size := Blk.lt h.r
  have hmz : d.more.size ≤ Out.size := by
    have h1 := bsize Out
    rw [h.o, List.length_append, bsize] at h1
    omega
  have hcb : ¬ (d.blocks b w.heap.size) := fun hb => by have := hlt.out _ hb; omega
  have HW := Lib.hid (h.far (P := fun _ => False) ((Touch.refl _ w).alloc (.cells #[.int .i64 op, .int .i64 n, .string x] 64)) (fun _ _ => id) id)
  have CW := Lib.hid (Blk.new w #[.int .i64 op, .int .i64 n, .string x] 64)
  have T0 := Lib.hid ((Touch.refl (fun i => d.blocks b i ∨ i = rb) w).alloc (.cells #[.int .i64 op, .int .i64 n, .string x] 64))
  obtain ⟨W, hW⟩ : ∃ W, W = w.alloc (.cells #[.int .i64 op, .int .i64 n, .string x] 64) := ⟨_, rfl⟩
  rw [← hW] at HW CW T0
  have cw1 : W.cell? ⟨w.heap.size, 1, none⟩ = some (.int .i64 n) := CW.out.cell 1
  have cw2 : W.cell? ⟨w.heap.size, 2, none⟩ = some (.string x) := CW.out.cell 2
  have H := Lib.hid h
  have HWE := Lib.hid hW
  clear h hW
  have e1 : (op == 1) = true := by rw [beq_iff_eq]; omega
  clear ho
  obtain ⟨k, hk⟩ : ∃ k, k = min x.size (d.most - In.size) := ⟨_, rfl⟩
  have hI := bsize In
  have HE := Lib.hid he
  have HC := Lib.hid hc
  have HK := Lib.hid (show (k : Int) = min (x.size : Int) ((d.most : Int) - In.size) by omega)
  have HI := Lib.hid H.out.i
  have hIl : d.I.length = In.size := by rw [← HI.out, hI]
  have hg := give_any (HW.out.l.far (P := fun _ => False) (Touch.refl _ W).drew (fun _ _ => id)) x (by omega) he hc
  rw [hIl, ← hk] at hg
  have HG := Lib.hid hg
  have HK2 := Lib.hid hk
  clear hk hg he hc hI hIl
  go_enter Try.func32, Try.ntmps32
  go_wp2_with fail
  rw [← HWE.out]
  go_region_held3 (fun w' => w'.cell? ⟨w.heap.size, 2, none⟩ = some (.string x)) (first | exact cw2 | exact Touch.cell (by assumption) hcb (by assumption) | exact Touch.cell (by assumption) (show ¬ (w.heap.size = rb) by omega) (by assumption)) ((first
    | (go_at_call 43; refine HG.out.mono ?_; rintro e w2 ⟨rfl, l2, t2⟩; have L2 := Lib.hid l2; clear l2)
    | (go_at_call 49; refine (rgive_any (Rl.touch (w := W.drew) HW.out.r t2 hap) x (by omega) HE.out HC.out (by omega) (by omega) k HK.out _ rfl).mono ?_; rintro e w3 ⟨rfl, r3, t3⟩; have R3 := Lib.hid r3; clear r3)))
  go_wp2_with fail
  go_ret
  refine ⟨rfl, { d with I := d.I ++ x.data.toList.take (d.most - In.size) }, In ++ x.extract 0 k, Out, ⟨?_, R3.out, ?_, H.out.o, H.out.f⟩, ⟨rfl, rfl, rfl, rfl, rfl⟩, Nat.le_add_right _ _, ?_⟩
  · exact L2.out.far t3 (fun i hi e => hap (e ▸ hi))
  · rw [data_append, HI.out, data_extract, List.drop_zero, Nat.sub_zero]
    congr 1
    have hb := bsize x
    have := HK2.out
    rw [List.take_eq_take_iff]
    omega
  · exact (T0.out.drew.trans (t2.mono fun _ _ h => .inl h)).trans (t3.mono fun _ _ h => .inr h)
set_option maxHeartbeats 1000000 in
theorem act_take {w : World} {b rb : Nat} {d : LD} {In Out : ByteArray} (h : Pair w b rb d In Out) (op n : Int) (x : ByteArray) (hn0 : -9223372036854775808 ≤ n) (hn : n ≤ 9223372036854775807) (hx : x.size ≤ 300) (hO : Out.size ≤ 18000) (ho : op = 5) :
    Calls Try.prog 32 #[.pointer (some ⟨b, 0, none⟩), .pointer (some ⟨rb, 0, none⟩), .agg #[.int .i64 op, .int .i64 n, .string x]] w (ActPost w b rb d (Out.size + x.size) (.bool true)) := by
  have hap := h.apart
  have hin := h.inle
  have hqm := h.l.qm
  have hlt := Lib.hid h.l.lt
  have hrlt : rb < w.heap.size := Blk.lt h.r
  have hmz : d.more.size ≤ Out.size := by
    have h1 := bsize Out
    rw [h.o, List.length_append, bsize] at h1
    omega
  have hcb : ¬ (d.blocks b w.heap.size) := fun hb => by have := hlt.out _ hb; omega
  have HW := Lib.hid (h.far (P := fun _ => False) ((Touch.refl _ w).alloc (.cells #[.int .i64 op, .int .i64 n, .string x] 64)) (fun _ _ => id) id)
  have CW := Lib.hid (Blk.new w #[.int .i64 op, .int .i64 n, .string x] 64)
  have T0 := Lib.hid ((Touch.refl (fun i => d.blocks b i ∨ i = rb) w).alloc (.cells #[.int .i64 op, .int .i64 n, .string x] 64))
  obtain ⟨W, hW⟩ : ∃ W, W = w.alloc (.cells #[.int .i64 op, .int .i64 n, .string x] 64) := ⟨_, rfl⟩
  rw [← hW] at HW CW T0
  have cw1 : W.cell? ⟨w.heap.size, 1, none⟩ = some (.int .i64 n) := CW.out.cell 1
  have cw2 : W.cell? ⟨w.heap.size, 2, none⟩ = some (.string x) := CW.out.cell 2
  have H := Lib.hid h
  have HWE := Lib.hid hW
  clear h hW
  have e1 : (op == 1) = false := by rw [beq_eq_false_iff_ne]; omega
  have e2 : (op == 2) = false := by rw [beq_eq_false_iff_ne]; omega
  have e3 : (op == 3) = false := by rw [beq_eq_false_iff_ne]; omega
  have e4 : (op == 4) = false := by rw [beq_eq_false_iff_ne]; omega
  have e5 : (op == 5) = true := by rw [beq_iff_eq]; omega
  clear ho
  obtain ⟨y, hy⟩ : ∃ y : ByteArray, y = ⟨(Out.data.toList.take n.toNat).toArray⟩ := ⟨_, rfl⟩
  have HY1 := Lib.hid (show y.data.toList = (d.O ++ d.more.data.toList).take n.toNat by rw [hy, ← H.out.o])
  have HY2 := Lib.hid (show y.data.toList = Out.data.toList.take n.toNat by rw [hy])
  clear hy
  go_enter Try.func32, Try.ntmps32
  go_wp2_with fail
  rw [← HWE.out]
  go_region_held3 (fun w' => w'.cell? ⟨w.heap.size, 1, none⟩ = some (.int .i64 n)) (first | exact cw1 | exact Touch.cell (by assumption) hcb (by assumption) | exact Touch.cell (by assumption) (show ¬ (w.heap.size = rb) by omega) (by assumption)) ((first
    | (go_at_call 44; refine (ltake_any (HW.out.l.far (P := fun _ => False) (Touch.refl _ W).drew (fun _ _ => id)) n hn hn0 (by omega) y HY1.out).mono ?_; rintro e w2 ⟨rfl, l2, t2⟩; have L2 := Lib.hid l2; clear l2)
    | (go_at_call 52; refine (rltake_any (Rl.touch (w := W.drew) HW.out.r t2 hap) n (by omega) y ⟨(Out.data.toList.drop n.toNat).toArray⟩ HY2.out rfl).mono ?_; rintro e w3 ⟨rfl, r3, t3⟩; have R3 := Lib.hid r3; clear r3)))
  go_wp2_with fail
  go_ret
  refine ⟨by simp, (d.took n).fill, In, _, ⟨?_, R3.out, H.out.i, ?_, ?_⟩, ⟨rfl, rfl, rfl, rfl, rfl⟩, ?_, ?_⟩
  · exact L2.out.far t3 (fun i hi e => hap (e ▸ hi))
  · rw [LD.fill_out, LD.took_out, ← H.out.o]
  · exact LD.fill_full _ (by show (d.O.drop n.toNat).length ≤ d.most; rw [List.length_drop]; have := H.out.l.outq.le; omega)
  · show (Out.data.toList.drop n.toNat).toArray.size ≤ _
    rw [List.size_toArray, List.length_drop, bsize]
    omega
  · exact (T0.out.drew.trans (t2.mono fun _ _ h => .inl h)).trans (t3.mono fun _ _ h => .inr h)
theorem act_any {w : World} {b rb : Nat} {d : LD} {In Out : ByteArray} (h : Pair w b rb d In Out) (op n : Int) (x : ByteArray) (hn0 : -9223372036854775808 ≤ n) (hn : n ≤ 9223372036854775807) (hx : x.size ≤ 300) (hO : Out.size ≤ 18000) :
    Calls Try.prog 32 #[.pointer (some ⟨b, 0, none⟩), .pointer (some ⟨rb, 0, none⟩), .agg #[.int .i64 op, .int .i64 n, .string x]] w (ActPost w b rb d (Out.size + x.size) (.bool true)) := by
  by_cases h1 : op = 1
  · cases he : (d.ended || d.shut) with
    | true => exact act_give_shut h op n x hn0 hn hx hO h1 he
    | false =>
      rw [Bool.or_eq_false_iff] at he
      exact act_give h op n x hn0 hn hx hO h1 he.1 he.2
  by_cases h2 : op = 2
  · exact act_end h op n x hn0 hn hx hO h2
  by_cases h3 : op = 3
  · exact act_use h op n x hn0 hn hx hO h3
  by_cases h4 : op = 4
  · cases hc : d.shut with
    | true => exact act_write_shut h op n x hn0 hn hx hO h4 hc
    | false => exact act_write h op n x hn0 hn hx hO h4 hc
  by_cases h5 : op = 5
  · exact act_take h op n x hn0 hn hx hO h5
  by_cases h6 : op = 6
  · exact act_shut h op n x hn0 hn hx hO h6
  · exact act_other h op n x hn0 hn hx hO (by omega)
end Go.Proofs.Ytmkjkodblincbaa

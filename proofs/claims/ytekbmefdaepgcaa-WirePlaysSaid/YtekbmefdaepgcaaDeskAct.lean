/- Package abutmentlaw42's act: a call on the desk's wire and link and on the reference's. -/
import Derived.Test.YtekbmefdaepgcaaDeskWire
import Derived.Test.YtekbmefdaepgcaaWire
namespace Go.Proofs.Ytekbmefdaepgcaa
open Go.RowKit
/-- A desk: the wire and the link tell what the reference's tell. -/
structure Desk (w : World) (B db wb sb kb : Nat) (S : ByteArray) (at_ : Nat) (E : Bool) (T : ByteArray) (d : LD) (Lf In Out : ByteArray) : Prop where
  wr : IsW w B wb sb S at_ E T.data.toList
  l : IsL w kb d
  dk : Dk w db (.pointer (some ⟨wb, 0, none⟩)) (.pointer (some ⟨kb, 0, none⟩)) Lf (S.size : Int) E T In Out (d.most : Int) d.ended d.shut
  lf : Lf.data.toList = S.data.toList.drop at_
  i : In.data.toList = d.I
  o : Out.data.toList = d.O ++ d.more.data.toList
  hd : db < B
  hk : ∀ i, d.blocks kb i → i < B
section
variable {w w1 : World} {B db wb sb kb at_ : Nat} {S T Lf In Out : ByteArray} {E : Bool} {d : LD}
theorem IsL.nblk {w : World} {b : Nat} {d : LD} (h : IsL w b d) {g : Nat} {cs : Array Value} {t : TypeId} (hg : Blk w g cs t) (h1 : t ≠ 115) (h2 : t ≠ 136) (h3 : t ≠ 5) : ¬ d.blocks b g := by
  obtain ⟨_, a1⟩ := h.inq.head
  obtain ⟨_, a2⟩ := h.inq.rowb
  obtain ⟨_, a3⟩ := h.outq.head
  obtain ⟨_, a4⟩ := h.outq.rowb
  rintro (e | e | e | e | e)
  · exact (Blk.ne hg h.head h1) e
  · exact (Blk.ne hg a1 h2) e
  · exact (Blk.ne hg a2 h3) e
  · exact (Blk.ne hg a3 h2) e
  · exact (Blk.ne hg a4 h3) e
/-- The blocks of a desk lie apart. -/
theorem Desk.apart (h : Desk w B db wb sb kb S at_ E T d Lf In Out) : wb ≠ db ∧ sb ≠ db ∧ wb ≠ sb ∧ ¬ d.blocks kb wb ∧ ¬ d.blocks kb sb ∧ ¬ d.blocks kb db := by
  obtain ⟨p, v, hb⟩ := h.wr.blk
  exact ⟨Blk.ne hb h.dk (by decide), Blk.ne h.wr.st h.dk (by decide), h.wr.ne, h.l.nblk hb (by decide) (by decide) (by decide), h.l.nblk h.wr.st (by decide) (by decide) (by decide), h.l.nblk h.dk (by decide) (by decide) (by decide)⟩
theorem Desk.far {P : Nat → Prop} (h : Desk w B db wb sb kb S at_ E T d Lf In Out) (t : Touch P w w1) (hP : ∀ i, (i = db ∨ i = wb ∨ i = sb ∨ d.blocks kb i ∨ B ≤ i) → ¬ P i) : Desk w1 B db wb sb kb S at_ E T d Lf In Out :=
  ⟨h.wr.far t (hP _ (.inr (.inl rfl))) (hP _ (.inr (.inr (.inl rfl)))) (fun i hi => hP i (.inr (.inr (.inr (.inr hi))))), h.l.far t (fun i hi => hP i (.inr (.inr (.inr (.inl hi))))), h.dk.touch t (hP _ (.inl rfl)), h.lf, h.i, h.o, h.hd, h.hk⟩
theorem Desk.sizes (h : Desk w B db wb sb kb S at_ E T d Lf In Out) : Lf.size = S.size - at_ ∧ In.size = d.I.length ∧ Out.size = d.O.length + d.more.size ∧ d.I.length ≤ d.most ∧ d.O.length ≤ d.most ∧ d.most ≤ 65536 ∧ at_ ≤ S.size := by
  have h1 := congrArg List.length h.lf
  have h2 := congrArg List.length h.i
  have h3 := congrArg List.length h.o
  rw [bsize, List.length_drop, bsize] at h1
  rw [bsize] at h2
  rw [bsize, List.length_append, bsize] at h3
  exact ⟨h1, h2, h3, h.l.inq.le, h.l.outq.le, h.l.qm, h.wr.le⟩
end
def DeskPost (w : World) (B db wb sb kb : Nat) (d : LD) (z1 z2 : Nat) (v : Value) (e : Ending) (w' : World) : Prop :=
  e = .returned v ∧ ∃ S' at' E' T' d' Lf' In' Out', Desk w' B db wb sb kb S' at' E' T' d' Lf' In' Out' ∧ SameB d d' ∧ S'.size ≤ z1 ∧ T'.size + Out'.size ≤ z2 ∧ Touch (fun i => i = db ∨ i = wb ∨ i = sb ∨ d.blocks kb i ∨ Row w B i) w w'
set_option maxHeartbeats 2000000 in
theorem dact_other {w : World} {B db wb sb kb at_ : Nat} {S T Lf In Out : ByteArray} {E : Bool} {d : LD} (h : Desk w B db wb sb kb S at_ E T d Lf In Out) (op n : Int) (x : ByteArray) (hn0 : -9223372036854775808 ≤ n) (hn : n ≤ 9223372036854775807) (hx : x.size ≤ 300) (hS : S.size ≤ 18000) (hO : T.size + Out.size ≤ 18000) (ho : op < 1 ∨ 7 < op) :
    Calls Try.prog 20 #[.pointer (some ⟨db, 0, none⟩), .agg #[.int .i64 op, .int .i64 n, .string x]] w (DeskPost w B db wb sb kb d (S.size + x.size) (T.size + Out.size + x.size) (.bool true)) := by
  obtain ⟨n1, n2, n3, n4, n5, n6⟩ := h.apart
  obtain ⟨s1, s2, s3, s4, s5, s6, s7⟩ := h.sizes
  have hBw := h.wr.hB
  have hdB := h.hd
  have hwB := h.wr.hb
  have hsB := h.wr.hs
  have HKB := Lib.hid h.hk
  have N4 := Lib.hid n4
  have N5 := Lib.hid n5
  have N6 := Lib.hid n6
  have NA := Lib.hid (show ¬ d.blocks kb w.heap.size from fun hi => by have := h.hk _ hi; omega)
  clear n4 n5 n6
  obtain ⟨W, hW⟩ : ∃ W, W = w.alloc (.cells #[.int .i64 op, .int .i64 n, .string x] 54) := ⟨_, rfl⟩
  have tW : Touch (fun _ => False) w W := by rw [hW]; exact (Touch.refl _ _).alloc _
  have hb : Blk W w.heap.size #[.int .i64 op, .int .i64 n, .string x] 54 := by rw [hW]; exact Blk.new _ _ _
  have hw1 : Desk W B db wb sb kb S at_ E T d Lf In Out := h.far tW (fun _ _ => id)
  have cw1 : W.cell? ⟨w.heap.size, 1, none⟩ = some (.int .i64 n) := hb.cell 1
  have cw2 : W.cell? ⟨w.heap.size, 2, none⟩ = some (.string x) := hb.cell 2
  have k0 : W.cell? ⟨db, 0, none⟩ = some (.pointer (some ⟨wb, 0, none⟩)) := hw1.dk.cell 0
  have k1 : W.cell? ⟨db, 1, none⟩ = some (.pointer (some ⟨kb, 0, none⟩)) := hw1.dk.cell 1
  have HD := Lib.hid hw1
  have HBW := Lib.hid hb
  have T0 := Lib.hid (show Touch (fun i => i = db ∨ i = wb ∨ i = sb ∨ d.blocks kb i ∨ Row w B i) w W from tW.mono fun _ _ => False.elim)
  have HWE := Lib.hid hW
  have TWD := Lib.hid tW.drew
  have HSZ := Lib.hid (And.intro s1 (And.intro s2 s3))
  clear h tW hb hw1 hW s1 s2 s3
  have e1 : (op == 1) = false := by rw [beq_eq_false_iff_ne]; omega
  have e2 : (op == 2) = false := by rw [beq_eq_false_iff_ne]; omega
  have e3 : (op == 3) = false := by rw [beq_eq_false_iff_ne]; omega
  have e4 : (op == 4) = false := by rw [beq_eq_false_iff_ne]; omega
  have e5 : (op == 5) = false := by rw [beq_eq_false_iff_ne]; omega
  have e6 : (op == 6) = false := by rw [beq_eq_false_iff_ne]; omega
  have e7 : (op == 7) = false := by rw [beq_eq_false_iff_ne]; omega
  clear ho
  go_enter Try.func20, Try.ntmps20
  go_wp2_with fail
  go_ret
  exact ⟨rfl, S, at_, E, T, d, Lf, In, Out, HWE.out ▸ HD.out, ⟨rfl, rfl, rfl, rfl, rfl⟩, Nat.le_add_right _ _, Nat.le_add_right _ _, HWE.out ▸ T0.out⟩
set_option maxHeartbeats 2000000 in
theorem dact_send_off {w : World} {B db wb sb kb at_ : Nat} {S T Lf In Out : ByteArray} {E : Bool} {d : LD} (h : Desk w B db wb sb kb S at_ E T d Lf In Out) (op n : Int) (x : ByteArray) (hn0 : -9223372036854775808 ≤ n) (hn : n ≤ 9223372036854775807) (hx : x.size ≤ 300) (hS : S.size ≤ 18000) (hO : T.size + Out.size ≤ 18000) (ho : op = 1) (hE : E = true) :
    Calls Try.prog 20 #[.pointer (some ⟨db, 0, none⟩), .agg #[.int .i64 op, .int .i64 n, .string x]] w (DeskPost w B db wb sb kb d (S.size + x.size) (T.size + Out.size + x.size) (.bool true)) := by
  obtain ⟨n1, n2, n3, n4, n5, n6⟩ := h.apart
  obtain ⟨s1, s2, s3, s4, s5, s6, s7⟩ := h.sizes
  have hBw := h.wr.hB
  have hdB := h.hd
  have hwB := h.wr.hb
  have hsB := h.wr.hs
  have HKB := Lib.hid h.hk
  have N4 := Lib.hid n4
  have N5 := Lib.hid n5
  have N6 := Lib.hid n6
  have NA := Lib.hid (show ¬ d.blocks kb w.heap.size from fun hi => by have := h.hk _ hi; omega)
  clear n4 n5 n6
  obtain ⟨W, hW⟩ : ∃ W, W = w.alloc (.cells #[.int .i64 op, .int .i64 n, .string x] 54) := ⟨_, rfl⟩
  have tW : Touch (fun _ => False) w W := by rw [hW]; exact (Touch.refl _ _).alloc _
  have hb : Blk W w.heap.size #[.int .i64 op, .int .i64 n, .string x] 54 := by rw [hW]; exact Blk.new _ _ _
  have hw1 : Desk W B db wb sb kb S at_ E T d Lf In Out := h.far tW (fun _ _ => id)
  have cw1 : W.cell? ⟨w.heap.size, 1, none⟩ = some (.int .i64 n) := hb.cell 1
  have cw2 : W.cell? ⟨w.heap.size, 2, none⟩ = some (.string x) := hb.cell 2
  have k0 : W.cell? ⟨db, 0, none⟩ = some (.pointer (some ⟨wb, 0, none⟩)) := hw1.dk.cell 0
  have k1 : W.cell? ⟨db, 1, none⟩ = some (.pointer (some ⟨kb, 0, none⟩)) := hw1.dk.cell 1
  have HD := Lib.hid hw1
  have HBW := Lib.hid hb
  have T0 := Lib.hid (show Touch (fun i => i = db ∨ i = wb ∨ i = sb ∨ d.blocks kb i ∨ Row w B i) w W from tW.mono fun _ _ => False.elim)
  have HWE := Lib.hid hW
  have TWD := Lib.hid tW.drew
  have HSZ := Lib.hid (And.intro s1 (And.intro s2 s3))
  clear h tW hb hw1 hW s1 s2 s3
  have e1 : (op == 1) = true := by rw [beq_iff_eq]; omega
  clear ho
  subst hE
  go_enter Try.func20, Try.ntmps20
  go_wp2_with fail
  rw [← HWE.out]
  go_region_held3 (fun w' => w'.cell? ⟨db, 0, none⟩ = some (.pointer (some ⟨wb, 0, none⟩)) ∧ w'.cell? ⟨w.heap.size, 2, none⟩ = some (.string x)) (first | exact ⟨k0, cw2⟩ | assumption) ((first
    | (go_at_call 59; refine (wsend_off (w := W.drew) (HD.out.far (P := fun _ => False) (Touch.refl _ _).drew (fun _ _ => id)).wr x).mono ?_; rintro e w2 ⟨rfl, rfl⟩)
    | (go_at_call 62; refine (dsend_off (w := W.drew) (HD.out.far (P := fun _ => False) (Touch.refl _ _).drew (fun _ _ => id)).dk rfl x).mono ?_; rintro e w2 ⟨rfl, rfl⟩)))
  go_wp2_with fail
  go_ret
  exact ⟨by simp, S, at_, true, T, d, Lf, In, Out, HD.out.far (P := fun _ => False) (Touch.refl _ _).drew (fun _ _ => id), ⟨rfl, rfl, rfl, rfl, rfl⟩, Nat.le_add_right _ _, Nat.le_add_right _ _, T0.out.drew⟩
set_option maxHeartbeats 2000000 in
theorem dact_send {w : World} {B db wb sb kb at_ : Nat} {S T Lf In Out : ByteArray} {E : Bool} {d : LD} (h : Desk w B db wb sb kb S at_ E T d Lf In Out) (op n : Int) (x : ByteArray) (hn0 : -9223372036854775808 ≤ n) (hn : n ≤ 9223372036854775807) (hx : x.size ≤ 300) (hS : S.size ≤ 18000) (hO : T.size + Out.size ≤ 18000) (ho : op = 1) (hE : E = false) :
    Calls Try.prog 20 #[.pointer (some ⟨db, 0, none⟩), .agg #[.int .i64 op, .int .i64 n, .string x]] w (DeskPost w B db wb sb kb d (S.size + x.size) (T.size + Out.size + x.size) (.bool true)) := by
  obtain ⟨n1, n2, n3, n4, n5, n6⟩ := h.apart
  obtain ⟨s1, s2, s3, s4, s5, s6, s7⟩ := h.sizes
  have hBw := h.wr.hB
  have hdB := h.hd
  have hwB := h.wr.hb
  have hsB := h.wr.hs
  have HKB := Lib.hid h.hk
  have N4 := Lib.hid n4
  have N5 := Lib.hid n5
  have N6 := Lib.hid n6
  have NA := Lib.hid (show ¬ d.blocks kb w.heap.size from fun hi => by have := h.hk _ hi; omega)
  clear n4 n5 n6
  obtain ⟨W, hW⟩ : ∃ W, W = w.alloc (.cells #[.int .i64 op, .int .i64 n, .string x] 54) := ⟨_, rfl⟩
  have tW : Touch (fun _ => False) w W := by rw [hW]; exact (Touch.refl _ _).alloc _
  have hb : Blk W w.heap.size #[.int .i64 op, .int .i64 n, .string x] 54 := by rw [hW]; exact Blk.new _ _ _
  have hw1 : Desk W B db wb sb kb S at_ E T d Lf In Out := h.far tW (fun _ _ => id)
  have cw1 : W.cell? ⟨w.heap.size, 1, none⟩ = some (.int .i64 n) := hb.cell 1
  have cw2 : W.cell? ⟨w.heap.size, 2, none⟩ = some (.string x) := hb.cell 2
  have k0 : W.cell? ⟨db, 0, none⟩ = some (.pointer (some ⟨wb, 0, none⟩)) := hw1.dk.cell 0
  have k1 : W.cell? ⟨db, 1, none⟩ = some (.pointer (some ⟨kb, 0, none⟩)) := hw1.dk.cell 1
  have HD := Lib.hid hw1
  have HBW := Lib.hid hb
  have T0 := Lib.hid (show Touch (fun i => i = db ∨ i = wb ∨ i = sb ∨ d.blocks kb i ∨ Row w B i) w W from tW.mono fun _ _ => False.elim)
  have HWE := Lib.hid hW
  have TWD := Lib.hid tW.drew
  have HSZ := Lib.hid (And.intro s1 (And.intro s2 s3))
  clear h tW hb hw1 hW s1 s2 s3
  have e1 : (op == 1) = true := by rw [beq_iff_eq]; omega
  clear ho
  subst hE
  obtain ⟨S', hS'⟩ : ∃ S', S' = S ++ x := ⟨_, rfl⟩
  have hSs : S'.size = S.size + x.size := by rw [hS', ByteArray.size_append]
  obtain ⟨M', hM'⟩ : ∃ M' : Int, M' = S.size + x.size := ⟨_, rfl⟩
  obtain ⟨Lf', hLf'⟩ : ∃ L, L = Lf ++ x := ⟨_, rfl⟩
  have hll : Lf'.data.toList = S'.data.toList.drop at_ := by
    rw [hLf', hS', data_append, data_append, HD.out.lf, List.drop_append_of_le_length (by rw [bsize]; omega)]
  have HS := Lib.hid hS'
  have HM := Lib.hid hM'
  have HL := Lib.hid hLf'
  have HLL := Lib.hid hll
  have HSS := Lib.hid hSs
  have hb1 : S.size + x.size ≤ 1048576 := by omega
  have hb2 : (S.size : Int) + x.size ≤ 1048576 := by omega
  have hb3 : Lf.size ≤ 1048576 := by have := HSZ.out.1; omega
  have hb0 : (0 : Int) ≤ S.size := by omega
  have hnd : ¬ (db = sb) := fun e => n2 e.symm
  have hna : ¬ (w.heap.size = sb) := by omega
  have hna2 : ¬ (w.heap.size = db) := by omega
  clear hS' hM' hLf' hll hSs
  go_enter Try.func20, Try.ntmps20
  go_wp2_with fail
  rw [← HWE.out]
  go_region_held3 (fun w' => w'.cell? ⟨db, 0, none⟩ = some (.pointer (some ⟨wb, 0, none⟩)) ∧ w'.cell? ⟨w.heap.size, 2, none⟩ = some (.string x)) (first | exact ⟨k0, cw2⟩ | assumption | exact ⟨by assumption, by assumption⟩) ((first
    | (go_at_call 59; refine (wsend_any (w := W.drew) (HD.out.far (P := fun _ => False) (Touch.refl _ _).drew (fun _ _ => id)).wr x S' hb1 HS.out).mono ?_; rintro e w2 ⟨rfl, r2, t2⟩; have f1 : w2.cell? ⟨db, 0, none⟩ = some (.pointer (some ⟨wb, 0, none⟩)) := Touch.cell (w := W.drew) t2 hnd k0; have f2 : w2.cell? ⟨w.heap.size, 2, none⟩ = some (.string x) := Touch.cell (w := W.drew) t2 hna cw2; have R2 := Lib.hid r2; have T2 := Lib.hid t2; clear r2 t2)
    | (go_at_call 62; refine (dsend_any ((HD.out.far (P := fun _ => False) (Touch.refl _ _).drew (fun _ _ => id)).dk.touch T2.out hnd) rfl x Lf' hb0 hb2 hb3 HL.out M' HM.out).mono ?_; rintro e w3 ⟨rfl, r3, t3⟩; have g1 : w3.cell? ⟨db, 0, none⟩ = some (.pointer (some ⟨wb, 0, none⟩)) := r3.cell 0; have g2 : w3.cell? ⟨w.heap.size, 2, none⟩ = some (.string x) := Touch.cell t3 hna2 f2; have R3 := Lib.hid r3; have T3 := Lib.hid t3; clear r3 t3)))
  go_wp2_with fail
  go_ret
  have hl := ((HD.out.far (P := fun _ => False) (Touch.refl _ _).drew (fun _ _ => id)).l.far T2.out (fun i hi e => N5.out (e ▸ hi))).far T3.out (fun i hi e => N6.out (e ▸ hi))
  refine ⟨by simp, S', at_, false, T, d, Lf', In, Out, ⟨R2.out.far T3.out n1 n2 (fun i hi e => by omega), hl, ?_, HLL.out, HD.out.i, HD.out.o, hdB, HKB.out⟩, ⟨rfl, rfl, rfl, rfl, rfl⟩, ?_, Nat.le_add_right _ _, ?_⟩
  · have h1 := R3.out
    rw [HM.out, show (S.size : Int) + x.size = (S'.size : Int) by rw [HSS.out]; omega] at h1
    exact h1
  · rw [HSS.out]; exact Nat.le_refl _
  · exact (T0.out.drew.trans (T2.out.mono fun _ _ h => .inr (.inr (.inl h)))).trans (T3.out.mono fun _ _ h => .inl h)
set_option maxHeartbeats 2000000 in
theorem dact_end {w : World} {B db wb sb kb at_ : Nat} {S T Lf In Out : ByteArray} {E : Bool} {d : LD} (h : Desk w B db wb sb kb S at_ E T d Lf In Out) (op n : Int) (x : ByteArray) (hn0 : -9223372036854775808 ≤ n) (hn : n ≤ 9223372036854775807) (hx : x.size ≤ 300) (hS : S.size ≤ 18000) (hO : T.size + Out.size ≤ 18000) (ho : op = 2) :
    Calls Try.prog 20 #[.pointer (some ⟨db, 0, none⟩), .agg #[.int .i64 op, .int .i64 n, .string x]] w (DeskPost w B db wb sb kb d (S.size + x.size) (T.size + Out.size + x.size) (.bool true)) := by
  obtain ⟨n1, n2, n3, n4, n5, n6⟩ := h.apart
  obtain ⟨s1, s2, s3, s4, s5, s6, s7⟩ := h.sizes
  have hBw := h.wr.hB
  have hdB := h.hd
  have hwB := h.wr.hb
  have hsB := h.wr.hs
  have HKB := Lib.hid h.hk
  have N4 := Lib.hid n4
  have N5 := Lib.hid n5
  have N6 := Lib.hid n6
  have NA := Lib.hid (show ¬ d.blocks kb w.heap.size from fun hi => by have := h.hk _ hi; omega)
  clear n4 n5 n6
  obtain ⟨W, hW⟩ : ∃ W, W = w.alloc (.cells #[.int .i64 op, .int .i64 n, .string x] 54) := ⟨_, rfl⟩
  have tW : Touch (fun _ => False) w W := by rw [hW]; exact (Touch.refl _ _).alloc _
  have hb : Blk W w.heap.size #[.int .i64 op, .int .i64 n, .string x] 54 := by rw [hW]; exact Blk.new _ _ _
  have hw1 : Desk W B db wb sb kb S at_ E T d Lf In Out := h.far tW (fun _ _ => id)
  have cw1 : W.cell? ⟨w.heap.size, 1, none⟩ = some (.int .i64 n) := hb.cell 1
  have cw2 : W.cell? ⟨w.heap.size, 2, none⟩ = some (.string x) := hb.cell 2
  have k0 : W.cell? ⟨db, 0, none⟩ = some (.pointer (some ⟨wb, 0, none⟩)) := hw1.dk.cell 0
  have k1 : W.cell? ⟨db, 1, none⟩ = some (.pointer (some ⟨kb, 0, none⟩)) := hw1.dk.cell 1
  have HD := Lib.hid hw1
  have HBW := Lib.hid hb
  have T0 := Lib.hid (show Touch (fun i => i = db ∨ i = wb ∨ i = sb ∨ d.blocks kb i ∨ Row w B i) w W from tW.mono fun _ _ => False.elim)
  have HWE := Lib.hid hW
  have TWD := Lib.hid tW.drew
  have HSZ := Lib.hid (And.intro s1 (And.intro s2 s3))
  clear h tW hb hw1 hW s1 s2 s3
  have e1 : (op == 1) = false := by rw [beq_eq_false_iff_ne]; omega
  have e2 : (op == 2) = true := by rw [beq_iff_eq]; omega
  clear ho
  have hnd : ¬ (db = sb) := fun e => n2 e.symm
  have k0w := k0
  have k1w := k1
  rw [HWE.out] at k0w k1w
  go_enter Try.func20, Try.ntmps20
  go_wp2_with fail
  clear k0w k1w
  rw [← HWE.out]
  refine (wend_any HD.out.wr).mono ?_
  rintro e w2 ⟨rfl, r2, t2⟩
  have h2 := HD.out.dk.touch t2 hnd
  have q4 : w2.cell? ⟨db, 4, none⟩ = some (.bool E) := h2.cell 4
  have z4 : w2.frozen? ⟨db, 4, none⟩ = false := h2.froz 4
  have R2 := Lib.hid r2
  have H2 := Lib.hid h2
  have T2 := Lib.hid t2
  clear r2 h2 t2
  go_wp2_with fail
  go_ret
  have t3 : Touch (fun i => i = db) w2 (w2.setCell ⟨db, 4, none⟩ (.bool true)) := Touch.setCell (P := fun i => i = db) (Touch.refl _ _) rfl _
  have hl := (HD.out.l.far T2.out (fun i hi e => N5.out (e ▸ hi))).far t3 (fun i hi e => N6.out (e ▸ hi))
  exact ⟨rfl, S, at_, true, T, d, Lf, In, Out, ⟨R2.out.far t3 n1 n2 (fun i hi e => by omega), hl, Dk.set H2.out 4 _ rfl, HD.out.lf, HD.out.i, HD.out.o, hdB, HKB.out⟩, ⟨rfl, rfl, rfl, rfl, rfl⟩, Nat.le_add_right _ _, Nat.le_add_right _ _, (T0.out.trans (T2.out.mono fun _ _ h => .inr (.inr (.inl h)))).trans (t3.mono fun _ _ h => .inl h)⟩
set_option maxHeartbeats 2000000 in
theorem dact_read {w : World} {B db wb sb kb at_ : Nat} {S T Lf In Out : ByteArray} {E : Bool} {d : LD} (h : Desk w B db wb sb kb S at_ E T d Lf In Out) (op n : Int) (x : ByteArray) (hn0 : -9223372036854775808 ≤ n) (hn : n ≤ 9223372036854775807) (hx : x.size ≤ 300) (hS : S.size ≤ 18000) (hO : T.size + Out.size ≤ 18000) (ho : op = 3) :
    Calls Try.prog 20 #[.pointer (some ⟨db, 0, none⟩), .agg #[.int .i64 op, .int .i64 n, .string x]] w (DeskPost w B db wb sb kb d (S.size + x.size) (T.size + Out.size + x.size) (.bool true)) := by
  obtain ⟨n1, n2, n3, n4, n5, n6⟩ := h.apart
  obtain ⟨s1, s2, s3, s4, s5, s6, s7⟩ := h.sizes
  have hBw := h.wr.hB
  have hdB := h.hd
  have hwB := h.wr.hb
  have hsB := h.wr.hs
  have HKB := Lib.hid h.hk
  have N4 := Lib.hid n4
  have N5 := Lib.hid n5
  have N6 := Lib.hid n6
  have NA := Lib.hid (show ¬ d.blocks kb w.heap.size from fun hi => by have := h.hk _ hi; omega)
  clear n4 n5 n6
  obtain ⟨W, hW⟩ : ∃ W, W = w.alloc (.cells #[.int .i64 op, .int .i64 n, .string x] 54) := ⟨_, rfl⟩
  have tW : Touch (fun _ => False) w W := by rw [hW]; exact (Touch.refl _ _).alloc _
  have hb : Blk W w.heap.size #[.int .i64 op, .int .i64 n, .string x] 54 := by rw [hW]; exact Blk.new _ _ _
  have hw1 : Desk W B db wb sb kb S at_ E T d Lf In Out := h.far tW (fun _ _ => id)
  have cw1 : W.cell? ⟨w.heap.size, 1, none⟩ = some (.int .i64 n) := hb.cell 1
  have cw2 : W.cell? ⟨w.heap.size, 2, none⟩ = some (.string x) := hb.cell 2
  have k0 : W.cell? ⟨db, 0, none⟩ = some (.pointer (some ⟨wb, 0, none⟩)) := hw1.dk.cell 0
  have k1 : W.cell? ⟨db, 1, none⟩ = some (.pointer (some ⟨kb, 0, none⟩)) := hw1.dk.cell 1
  have HD := Lib.hid hw1
  have HBW := Lib.hid hb
  have T0 := Lib.hid (show Touch (fun i => i = db ∨ i = wb ∨ i = sb ∨ d.blocks kb i ∨ Row w B i) w W from tW.mono fun _ _ => False.elim)
  have HWE := Lib.hid hW
  have TWD := Lib.hid tW.drew
  have HSZ := Lib.hid (And.intro s1 (And.intro s2 s3))
  clear h tW hb hw1 hW s1 s2 s3
  have e1 : (op == 1) = false := by rw [beq_eq_false_iff_ne]; omega
  have e2 : (op == 2) = false := by rw [beq_eq_false_iff_ne]; omega
  have e3 : (op == 3) = true := by rw [beq_iff_eq]; omega
  clear ho
  obtain ⟨U, hU⟩ : ∃ U, U = min S.size (at_ + n.toNat) := ⟨_, rfl⟩
  obtain ⟨U2, hU2⟩ : ∃ U, U = min Lf.size n.toNat := ⟨_, rfl⟩
  obtain ⟨k, hk⟩ : ∃ k, k = min (S.extract at_ U).size d.room := ⟨_, rfl⟩
  obtain ⟨v, hv⟩ : ∃ v, v = decide (at_ + k = S.size) := ⟨_, rfl⟩
  obtain ⟨d', hd'⟩ : ∃ d' : LD, d' = { d with I := d.I ++ (S.extract at_ U).data.toList.take d.room, ended := d.ended || (E && v) } := ⟨_, rfl⟩
  obtain ⟨In', hI'⟩ : ∃ x, x = In ++ (Lf.extract 0 U2).extract 0 k := ⟨_, rfl⟩
  obtain ⟨Lf', hL'⟩ : ∃ x, x = Lf.extract k Lf.size := ⟨_, rfl⟩
  have s1 := HSZ.out.1
  have s2 := HSZ.out.2.1
  have hyz : (S.extract at_ U).size = U - at_ := by rw [ByteArray.size_extract]; omega
  have hyl : (Lf.extract 0 U2).data.toList = (S.extract at_ U).data.toList := by
    rw [data_extract, data_extract, HD.out.lf, List.drop_zero]
    congr 1
    omega
  have hyz2 : (Lf.extract 0 U2).size = U - at_ := by rw [← bsize, hyl, bsize, hyz]
  have hk2 : k = min (Lf.extract 0 U2).size (if d.ended || d.shut then 0 else d.most - In.size) := by
    rw [hk, hyz, hyz2, s2]; rfl
  have hkU : k ≤ U - at_ := by omega
  have hLz : Lf'.size = Lf.size - k := by rw [hL', ByteArray.size_extract]; omega
  have hll : Lf'.data.toList = S.data.toList.drop (at_ + k) := by
    rw [hL', data_extract, List.take_of_length_le (by rw [List.length_drop, bsize]; exact Nat.le_refl _), HD.out.lf, List.drop_drop]
  have hv2 : v = decide (Lf'.size = 0) := by
    rw [hv, decide_eq_decide]; omega
  have hii : In'.data.toList = d'.I := by
    rw [hI', hd', data_append, data_extract, hyl, HD.out.i, List.drop_zero]
    show _ = d.I ++ (S.extract at_ U).data.toList.take d.room
    congr 1
    rw [List.take_eq_take_iff, bsize, hyz]
    omega
  have HU := Lib.hid hU
  have HU2 := Lib.hid hU2
  have HK := Lib.hid hk
  have HK2 := Lib.hid hk2
  have HV := Lib.hid hv
  have HV2 := Lib.hid hv2
  have HD' := Lib.hid hd'
  have HI := Lib.hid hI'
  have HL := Lib.hid hL'
  have HLL := Lib.hid hll
  have HII := Lib.hid hii
  have hb1 : S.size ≤ 1048576 := by omega
  have hb2 : Lf.size ≤ 1048576 := by omega
  have hb3 : In.size ≤ d.most := by omega
  have hb4 : d.most ≤ 4611686018427387903 := by omega
  have NR := Lib.hid (show ∀ g, g ≠ sb → ¬ d.blocks kb g → ¬ (g = sb ∨ d.blocks kb g) from fun g h1 h2 h => h.elim h1 h2)
  have hna2 : ¬ (w.heap.size = db) := by omega
  have hnas : ¬ (w.heap.size = sb) := by omega
  clear hU hU2 hk hk2 hv hv2 hd' hI' hL' hll hii hyz hyl hyz2 hkU hLz s1 s2
  go_enter Try.func20, Try.ntmps20
  go_wp2_with fail
  rw [← HWE.out]
  go_region_held3 (fun w' => w'.cell? ⟨db, 0, none⟩ = some (.pointer (some ⟨wb, 0, none⟩)) ∧ w'.cell? ⟨db, 1, none⟩ = some (.pointer (some ⟨kb, 0, none⟩)) ∧ w'.cell? ⟨w.heap.size, 1, none⟩ = some (.int .i64 n)) (first | exact ⟨k0, k1, cw1⟩ | assumption | exact ⟨by assumption, by assumption, by assumption⟩) ((first
    | (go_at_call 60; refine (wread_any (w := W.drew) (HD.out.far (P := fun _ => False) (Touch.refl _ _).drew (fun _ _ => id)).wr (HD.out.far (P := fun _ => False) (Touch.refl _ _).drew (fun _ _ => id)).l HKB.out N4.out N5.out hb1 n U HU.out k HK.out v HV.out d' HD'.out).mono ?_; rintro e w2 ⟨rfl, r2, l2, t2⟩; have f0 : w2.cell? ⟨db, 0, none⟩ = some (.pointer (some ⟨wb, 0, none⟩)) := Touch.cell (w := W.drew) t2 (NR.out db (fun e => n2 e.symm) N6.out) k0; have f1 : w2.cell? ⟨db, 1, none⟩ = some (.pointer (some ⟨kb, 0, none⟩)) := Touch.cell (w := W.drew) t2 (NR.out db (fun e => n2 e.symm) N6.out) k1; have f2 : w2.cell? ⟨w.heap.size, 1, none⟩ = some (.int .i64 n) := Touch.cell (w := W.drew) t2 (NR.out _ hnas NA.out) cw1; have R2 := Lib.hid r2; have L2 := Lib.hid l2; have T2 := Lib.hid t2; clear r2 l2 t2)
    | (go_at_call 64; refine (dread_any ((HD.out.far (P := fun _ => False) (Touch.refl _ _).drew (fun _ _ => id)).dk.touch T2.out (NR.out db (fun e => n2 e.symm) N6.out)) hb2 n HU2.out d.most rfl hb3 hb4 k HK2.out In' HI.out Lf' HL.out v HV2.out (d.ended || (E && v)) rfl).mono ?_; rintro e w3 ⟨rfl, r3, t3⟩; have g1 : w3.cell? ⟨db, 0, none⟩ = some (.pointer (some ⟨wb, 0, none⟩)) := r3.cell 0; have g2 : w3.cell? ⟨db, 1, none⟩ = some (.pointer (some ⟨kb, 0, none⟩)) := r3.cell 1; have g3 : w3.cell? ⟨w.heap.size, 1, none⟩ = some (.int .i64 n) := Touch.cell t3 hna2 f2; have R3 := Lib.hid r3; have T3 := Lib.hid t3; clear r3 t3)))
  go_wp2_with fail
  go_ret
  have hd := HD'.out
  refine ⟨by simp, S, at_ + k, E, T, d', Lf', In', Out, ⟨R2.out.far T3.out n1 n2 (fun i hi e => by omega), L2.out.far T3.out (fun i hi e => N6.out (by rw [hd] at hi; exact e ▸ hi)), ?_, HLL.out, HII.out, ?_, hdB, ?_⟩, ?_, Nat.le_add_right _ _, Nat.le_add_right _ _, ?_⟩
  · rw [hd]; exact R3.out
  · rw [hd]; exact HD.out.o
  · rw [hd]; exact HKB.out
  · rw [hd]; exact ⟨rfl, rfl, rfl, rfl, rfl⟩
  · exact (T0.out.drew.trans (T2.out.mono fun _ _ h => h.elim (fun h => .inr (.inr (.inl h))) (fun h => .inr (.inr (.inr (.inl h)))))).trans (T3.out.mono fun _ _ h => .inl h)
set_option maxHeartbeats 2000000 in
theorem dact_write_shut {w : World} {B db wb sb kb at_ : Nat} {S T Lf In Out : ByteArray} {E : Bool} {d : LD} (h : Desk w B db wb sb kb S at_ E T d Lf In Out) (op n : Int) (x : ByteArray) (hn0 : -9223372036854775808 ≤ n) (hn : n ≤ 9223372036854775807) (hx : x.size ≤ 300) (hS : S.size ≤ 18000) (hO : T.size + Out.size ≤ 18000) (ho : op = 4) (hc : d.shut = true) :
    Calls Try.prog 20 #[.pointer (some ⟨db, 0, none⟩), .agg #[.int .i64 op, .int .i64 n, .string x]] w (DeskPost w B db wb sb kb d (S.size + x.size) (T.size + Out.size + x.size) (.bool true)) := by
  obtain ⟨n1, n2, n3, n4, n5, n6⟩ := h.apart
  obtain ⟨s1, s2, s3, s4, s5, s6, s7⟩ := h.sizes
  have hBw := h.wr.hB
  have hdB := h.hd
  have hwB := h.wr.hb
  have hsB := h.wr.hs
  have HKB := Lib.hid h.hk
  have N4 := Lib.hid n4
  have N5 := Lib.hid n5
  have N6 := Lib.hid n6
  have NA := Lib.hid (show ¬ d.blocks kb w.heap.size from fun hi => by have := h.hk _ hi; omega)
  clear n4 n5 n6
  obtain ⟨W, hW⟩ : ∃ W, W = w.alloc (.cells #[.int .i64 op, .int .i64 n, .string x] 54) := ⟨_, rfl⟩
  have tW : Touch (fun _ => False) w W := by rw [hW]; exact (Touch.refl _ _).alloc _
  have hb : Blk W w.heap.size #[.int .i64 op, .int .i64 n, .string x] 54 := by rw [hW]; exact Blk.new _ _ _
  have hw1 : Desk W B db wb sb kb S at_ E T d Lf In Out := h.far tW (fun _ _ => id)
  have cw1 : W.cell? ⟨w.heap.size, 1, none⟩ = some (.int .i64 n) := hb.cell 1
  have cw2 : W.cell? ⟨w.heap.size, 2, none⟩ = some (.string x) := hb.cell 2
  have k0 : W.cell? ⟨db, 0, none⟩ = some (.pointer (some ⟨wb, 0, none⟩)) := hw1.dk.cell 0
  have k1 : W.cell? ⟨db, 1, none⟩ = some (.pointer (some ⟨kb, 0, none⟩)) := hw1.dk.cell 1
  have HD := Lib.hid hw1
  have HBW := Lib.hid hb
  have T0 := Lib.hid (show Touch (fun i => i = db ∨ i = wb ∨ i = sb ∨ d.blocks kb i ∨ Row w B i) w W from tW.mono fun _ _ => False.elim)
  have HWE := Lib.hid hW
  have TWD := Lib.hid tW.drew
  have HSZ := Lib.hid (And.intro s1 (And.intro s2 s3))
  clear h tW hb hw1 hW s1 s2 s3
  have e1 : (op == 1) = false := by rw [beq_eq_false_iff_ne]; omega
  have e2 : (op == 2) = false := by rw [beq_eq_false_iff_ne]; omega
  have e3 : (op == 3) = false := by rw [beq_eq_false_iff_ne]; omega
  have e4 : (op == 4) = true := by rw [beq_iff_eq]; omega
  clear ho
  have hna2 : ¬ (w.heap.size = db) := by omega
  go_enter Try.func20, Try.ntmps20
  go_wp2_with fail
  rw [← HWE.out]
  refine wp_region_drew_tail 6 (by kernel_rfl) (by kernel_rfl) ?_
  simp only [List.take_succ_cons, List.take_zero, List.drop_succ_cons, List.drop_zero]
  repeat go_big_quiet_step (fail)
  refine wpQuiet_nil ?_
  rintro _ ⟨n1q, rfl⟩
  go_wp2_with fail
  have h1 := HD.out.far (P := fun _ => False) ((Touch.refl _ _).drewN n1q) (fun _ _ => id)
  have H1 := Lib.hid h1
  have k01 : (W.drewN n1q).cell? ⟨db, 0, none⟩ = some (.pointer (some ⟨wb, 0, none⟩)) := k0
  clear h1
  refine (write_shut H1.out.l x hc).mono ?_
  rintro e w2 ⟨rfl, rfl⟩
  go_wp2_with fail
  refine wp_region_drew_tail 5 (by kernel_rfl) (by kernel_rfl) ?_
  simp only [List.take_succ_cons, List.take_zero, List.drop_succ_cons, List.drop_zero]
  repeat go_big_quiet_step (fail)
  refine wpQuiet_nil ?_
  rintro _ ⟨n2q, rfl⟩
  go_wp2_with fail
  refine (dwrite_shut (HD.out.far (P := fun _ => False) ((Touch.refl _ _).drewN (n1q + n2q)) (fun _ _ => id)).dk x hc).mono ?_
  rintro e w2 ⟨rfl, rfl⟩
  go_wp2_with fail
  go_ret
  exact ⟨rfl, S, at_, E, T, d, Lf, In, Out, HD.out.far (P := fun _ => False) ((Touch.refl _ _).drewN (n1q + n2q)) (fun _ _ => id), ⟨rfl, rfl, rfl, rfl, rfl⟩, Nat.le_add_right _ _, Nat.le_add_right _ _, T0.out.drewN _⟩
set_option maxHeartbeats 2000000 in
theorem dact_write {w : World} {B db wb sb kb at_ : Nat} {S T Lf In Out : ByteArray} {E : Bool} {d : LD} (h : Desk w B db wb sb kb S at_ E T d Lf In Out) (op n : Int) (x : ByteArray) (hn0 : -9223372036854775808 ≤ n) (hn : n ≤ 9223372036854775807) (hx : x.size ≤ 300) (hS : S.size ≤ 18000) (hO : T.size + Out.size ≤ 18000) (ho : op = 4) (hc : d.shut = false) :
    Calls Try.prog 20 #[.pointer (some ⟨db, 0, none⟩), .agg #[.int .i64 op, .int .i64 n, .string x]] w (DeskPost w B db wb sb kb d (S.size + x.size) (T.size + Out.size + x.size) (.bool true)) := by
  obtain ⟨n1, n2, n3, n4, n5, n6⟩ := h.apart
  obtain ⟨s1, s2, s3, s4, s5, s6, s7⟩ := h.sizes
  have hBw := h.wr.hB
  have hdB := h.hd
  have hwB := h.wr.hb
  have hsB := h.wr.hs
  have HKB := Lib.hid h.hk
  have N4 := Lib.hid n4
  have N5 := Lib.hid n5
  have N6 := Lib.hid n6
  have NA := Lib.hid (show ¬ d.blocks kb w.heap.size from fun hi => by have := h.hk _ hi; omega)
  clear n4 n5 n6
  obtain ⟨W, hW⟩ : ∃ W, W = w.alloc (.cells #[.int .i64 op, .int .i64 n, .string x] 54) := ⟨_, rfl⟩
  have tW : Touch (fun _ => False) w W := by rw [hW]; exact (Touch.refl _ _).alloc _
  have hb : Blk W w.heap.size #[.int .i64 op, .int .i64 n, .string x] 54 := by rw [hW]; exact Blk.new _ _ _
  have hw1 : Desk W B db wb sb kb S at_ E T d Lf In Out := h.far tW (fun _ _ => id)
  have cw1 : W.cell? ⟨w.heap.size, 1, none⟩ = some (.int .i64 n) := hb.cell 1
  have cw2 : W.cell? ⟨w.heap.size, 2, none⟩ = some (.string x) := hb.cell 2
  have k0 : W.cell? ⟨db, 0, none⟩ = some (.pointer (some ⟨wb, 0, none⟩)) := hw1.dk.cell 0
  have k1 : W.cell? ⟨db, 1, none⟩ = some (.pointer (some ⟨kb, 0, none⟩)) := hw1.dk.cell 1
  have HD := Lib.hid hw1
  have HBW := Lib.hid hb
  have T0 := Lib.hid (show Touch (fun i => i = db ∨ i = wb ∨ i = sb ∨ d.blocks kb i ∨ Row w B i) w W from tW.mono fun _ _ => False.elim)
  have HWE := Lib.hid hW
  have TWD := Lib.hid tW.drew
  have HSZ := Lib.hid (And.intro s1 (And.intro s2 s3))
  clear h tW hb hw1 hW s1 s2 s3
  have e1 : (op == 1) = false := by rw [beq_eq_false_iff_ne]; omega
  have e2 : (op == 2) = false := by rw [beq_eq_false_iff_ne]; omega
  have e3 : (op == 3) = false := by rw [beq_eq_false_iff_ne]; omega
  have e4 : (op == 4) = true := by rw [beq_iff_eq]; omega
  clear ho
  have hna2 : ¬ (w.heap.size = db) := by omega
  obtain ⟨d', hd'⟩ : ∃ d', d' = LD.fill { d with more := d.more ++ x } := ⟨_, rfl⟩
  have HD' := Lib.hid hd'
  have s3 := HSZ.out.2.2
  have hb1 : d.more.size + x.size ≤ 4611686018427387903 := by omega
  have hb2 : Out.size + x.size ≤ 9223372036854775807 := by omega
  clear hd' s3
  go_enter Try.func20, Try.ntmps20
  go_wp2_with fail
  rw [← HWE.out]
  refine wp_region_drew_tail 6 (by kernel_rfl) (by kernel_rfl) ?_
  simp only [List.take_succ_cons, List.take_zero, List.drop_succ_cons, List.drop_zero]
  repeat go_big_quiet_step (fail)
  refine wpQuiet_nil ?_
  rintro _ ⟨n1q, rfl⟩
  go_wp2_with fail
  have h1 := HD.out.far (P := fun _ => False) ((Touch.refl _ _).drewN n1q) (fun _ _ => id)
  have H1 := Lib.hid h1
  clear h1
  refine (write_any H1.out.l x hb1 hc).mono ?_
  rintro e w2 ⟨rfl, l2, t2⟩
  rw [← HD'.out] at l2
  have k02 : w2.cell? ⟨w.heap.size, 2, none⟩ = some (.string x) := Touch.cell (w := W.drewN n1q) t2 NA.out cw2
  have h2 := H1.out.dk.touch t2 N6.out
  have r2 := H1.out.wr.far t2 N4.out N5.out (fun i hi h => by have := HKB.out i h; omega)
  have L2 := Lib.hid l2
  have H2 := Lib.hid h2
  have R2 := Lib.hid r2
  have T2 := Lib.hid t2
  clear l2 h2 r2 t2
  go_wp2_with fail
  refine wp_region_drew_tail 5 (by kernel_rfl) (by kernel_rfl) ?_
  simp only [List.take_succ_cons, List.take_zero, List.drop_succ_cons, List.drop_zero]
  repeat go_big_quiet_step (fail)
  refine wpQuiet_nil ?_
  rintro _ ⟨n2q, rfl⟩
  go_wp2_with fail
  refine (dwrite_any (H2.out.touch (P := fun _ => False) ((Touch.refl _ _).drewN n2q) id) x hb2 hc).mono ?_
  rintro e w3 ⟨rfl, h3, t3⟩
  have H3 := Lib.hid h3
  have T3 := Lib.hid t3
  clear h3 t3
  go_wp2_with fail
  go_ret
  have hd := HD'.out
  refine ⟨rfl, S, at_, E, T, d', Lf, In, Out ++ x, ⟨(R2.out.far (P := fun _ => False) ((Touch.refl _ _).drewN n2q) id id (fun _ _ => id)).far T3.out n1 n2 (fun i hi e => by omega), (L2.out.far (P := fun _ => False) ((Touch.refl _ _).drewN n2q) (fun _ _ => id)).far T3.out (fun i hi e => N6.out (by rw [hd] at hi; exact e ▸ hi)), ?_, HD.out.lf, ?_, ?_, hdB, ?_⟩, ?_, Nat.le_add_right _ _, ?_, ?_⟩
  · rw [hd]; exact H3.out
  · rw [hd]; exact HD.out.i
  · rw [hd, LD.fill_out]
    show (Out ++ x).data.toList = d.O ++ (d.more ++ x).data.toList
    rw [data_append, data_append, HD.out.o, List.append_assoc]
  · rw [hd]; exact HKB.out
  · rw [hd]; exact ⟨rfl, rfl, rfl, rfl, rfl⟩
  · rw [ByteArray.size_append]; omega
  · exact (((T0.out.drewN _).trans (T2.out.mono fun _ _ h => .inr (.inr (.inr (.inl h))))).drewN _).trans (T3.out.mono fun _ _ h => .inl h)
set_option maxHeartbeats 2000000 in
theorem dact_grant {w : World} {B db wb sb kb at_ : Nat} {S T Lf In Out : ByteArray} {E : Bool} {d : LD} (h : Desk w B db wb sb kb S at_ E T d Lf In Out) (op n : Int) (x : ByteArray) (hn0 : -9223372036854775808 ≤ n) (hn : n ≤ 9223372036854775807) (hx : x.size ≤ 300) (hS : S.size ≤ 18000) (hO : T.size + Out.size ≤ 18000) (ho : op = 5) :
    Calls Try.prog 20 #[.pointer (some ⟨db, 0, none⟩), .agg #[.int .i64 op, .int .i64 n, .string x]] w (DeskPost w B db wb sb kb d (S.size + x.size) (T.size + Out.size + x.size) (.bool true)) := by
  obtain ⟨n1, n2, n3, n4, n5, n6⟩ := h.apart
  obtain ⟨s1, s2, s3, s4, s5, s6, s7⟩ := h.sizes
  have hBw := h.wr.hB
  have hdB := h.hd
  have hwB := h.wr.hb
  have hsB := h.wr.hs
  have HKB := Lib.hid h.hk
  have N4 := Lib.hid n4
  have N5 := Lib.hid n5
  have N6 := Lib.hid n6
  have NA := Lib.hid (show ¬ d.blocks kb w.heap.size from fun hi => by have := h.hk _ hi; omega)
  clear n4 n5 n6
  obtain ⟨W, hW⟩ : ∃ W, W = w.alloc (.cells #[.int .i64 op, .int .i64 n, .string x] 54) := ⟨_, rfl⟩
  have tW : Touch (fun _ => False) w W := by rw [hW]; exact (Touch.refl _ _).alloc _
  have hb : Blk W w.heap.size #[.int .i64 op, .int .i64 n, .string x] 54 := by rw [hW]; exact Blk.new _ _ _
  have hw1 : Desk W B db wb sb kb S at_ E T d Lf In Out := h.far tW (fun _ _ => id)
  have cw1 : W.cell? ⟨w.heap.size, 1, none⟩ = some (.int .i64 n) := hb.cell 1
  have cw2 : W.cell? ⟨w.heap.size, 2, none⟩ = some (.string x) := hb.cell 2
  have k0 : W.cell? ⟨db, 0, none⟩ = some (.pointer (some ⟨wb, 0, none⟩)) := hw1.dk.cell 0
  have k1 : W.cell? ⟨db, 1, none⟩ = some (.pointer (some ⟨kb, 0, none⟩)) := hw1.dk.cell 1
  have HD := Lib.hid hw1
  have HBW := Lib.hid hb
  have T0 := Lib.hid (show Touch (fun i => i = db ∨ i = wb ∨ i = sb ∨ d.blocks kb i ∨ Row w B i) w W from tW.mono fun _ _ => False.elim)
  have HWE := Lib.hid hW
  have TWD := Lib.hid tW.drew
  have HSZ := Lib.hid (And.intro s1 (And.intro s2 s3))
  clear h tW hb hw1 hW s1 s2 s3
  have e1 : (op == 1) = false := by rw [beq_eq_false_iff_ne]; omega
  have e2 : (op == 2) = false := by rw [beq_eq_false_iff_ne]; omega
  have e3 : (op == 3) = false := by rw [beq_eq_false_iff_ne]; omega
  have e4 : (op == 4) = false := by rw [beq_eq_false_iff_ne]; omega
  have e5 : (op == 5) = true := by rw [beq_iff_eq]; omega
  clear ho
  have s3 := HSZ.out.2.2
  obtain ⟨y, hy⟩ : ∃ y : ByteArray, y = ⟨(Out.data.toList.take n.toNat).toArray⟩ := ⟨_, rfl⟩
  obtain ⟨Out', hO'⟩ : ∃ y : ByteArray, y = ⟨(Out.data.toList.drop n.toNat).toArray⟩ := ⟨_, rfl⟩
  obtain ⟨T', hT'⟩ : ∃ z, z = T ++ y := ⟨_, rfl⟩
  obtain ⟨d', hd'⟩ : ∃ d', d' = (d.took n).fill := ⟨_, rfl⟩
  have hyl : y.data.toList = Out.data.toList.take n.toNat := by rw [hy]
  have hol : Out'.data.toList = Out.data.toList.drop n.toNat := by rw [hO']
  have hyz : y.size + Out'.size = Out.size := by
    rw [← bsize, ← bsize, ← bsize, hyl, hol, ← List.length_append, List.take_append_drop]
  have hTz : T'.size = T.size + y.size := by rw [hT', ByteArray.size_append]
  have HYL := Lib.hid hyl
  have HYL2 := Lib.hid (show y.data.toList = (d.O ++ d.more.data.toList).take n.toNat by rw [hyl, HD.out.o])
  have HOL := Lib.hid hol
  have HT' := Lib.hid hT'
  have HD' := Lib.hid hd'
  have HSS := Lib.hid (show T'.size + Out'.size ≤ T.size + Out.size + x.size by omega)
  have hb1 : d.more.size ≤ 4611686018427387903 := by omega
  have hb2 : Out.size ≤ 4611686018427387903 := by omega
  have hb3 : T.size + y.size ≤ 4611686018427387903 := by omega
  have hb4 : T.data.toList.length + y.size ≤ 140737488355328 := by rw [bsize]; omega
  have hnas : ¬ (w.heap.size = wb) := by omega
  have hna2 : ¬ (w.heap.size = db) := by omega
  have NR := Lib.hid (show ∀ g, g < B → g ≠ wb → ¬ d.blocks kb g → ¬ (g = wb ∨ d.blocks kb g ∨ Row W.drew B g) from fun g h0 h1 h2 h => h.elim h1 (fun h => h.elim h2 (fun h => by have := h.1; omega)))
  have NF := Lib.hid (show ¬ (w.heap.size = wb ∨ d.blocks kb w.heap.size ∨ Row W.drew B w.heap.size) from fun h => h.elim hnas (fun h => h.elim NA.out (fun h => by
    obtain ⟨_, cs, fz, h2⟩ := h
    have h3 := HBW.out
    unfold Blk at h3
    have h4 : W.heap[w.heap.size]? = some (.cells cs 5 fz) := h2
    rw [h3] at h4
    injection h4 with h4
    injection h4 with _ h4
    exact absurd h4 (by decide))))
  clear hy hO' hT' hd' hyl hol hTz hyz s3
  go_enter Try.func20, Try.ntmps20
  go_wp2_with fail
  rw [← HWE.out]
  go_region_held3 (fun w' => w'.cell? ⟨db, 0, none⟩ = some (.pointer (some ⟨wb, 0, none⟩)) ∧ w'.cell? ⟨db, 1, none⟩ = some (.pointer (some ⟨kb, 0, none⟩)) ∧ w'.cell? ⟨w.heap.size, 1, none⟩ = some (.int .i64 n)) (first | exact ⟨k0, k1, cw1⟩ | assumption | exact ⟨by assumption, by assumption, by assumption⟩) ((first
    | (go_at_call 67; refine (wgrant_any (w := W.drew) (HD.out.far (P := fun _ => False) (Touch.refl _ _).drew (fun _ _ => id)).wr (HD.out.far (P := fun _ => False) (Touch.refl _ _).drew (fun _ _ => id)).l HKB.out N4.out N5.out n hn hn0 hb1 y HYL2.out hb4 d' HD'.out).mono ?_; rintro e w2 ⟨rfl, r2, l2, t2⟩; have f0 : w2.cell? ⟨db, 0, none⟩ = some (.pointer (some ⟨wb, 0, none⟩)) := Touch.cell (w := W.drew) t2 (NR.out db hdB (fun e => n1 e.symm) N6.out) k0; have f1 : w2.cell? ⟨db, 1, none⟩ = some (.pointer (some ⟨kb, 0, none⟩)) := Touch.cell (w := W.drew) t2 (NR.out db hdB (fun e => n1 e.symm) N6.out) k1; have f2 : w2.cell? ⟨w.heap.size, 1, none⟩ = some (.int .i64 n) := Touch.cell (w := W.drew) t2 NF.out cw1; have R2 := Lib.hid r2; have L2 := Lib.hid l2; have T2 := Lib.hid t2; clear r2 l2 t2)
    | (go_at_call 68; refine (dgrant_any ((HD.out.far (P := fun _ => False) (Touch.refl _ _).drew (fun _ _ => id)).dk.touch T2.out (NR.out db hdB (fun e => n1 e.symm) N6.out)) n hb2 y Out' T' HYL.out HOL.out HT'.out hb3).mono ?_; rintro e w3 ⟨rfl, r3, t3⟩; have g1 : w3.cell? ⟨db, 0, none⟩ = some (.pointer (some ⟨wb, 0, none⟩)) := r3.cell 0; have g2 : w3.cell? ⟨db, 1, none⟩ = some (.pointer (some ⟨kb, 0, none⟩)) := r3.cell 1; have g3 : w3.cell? ⟨w.heap.size, 1, none⟩ = some (.int .i64 n) := Touch.cell t3 hna2 f2; have R3 := Lib.hid r3; have T3 := Lib.hid t3; clear r3 t3)))
  go_wp2_with fail
  go_ret
  have hd := HD'.out
  refine ⟨by simp, S, at_, E, T', d', Lf, In, Out', ⟨?_, L2.out.far T3.out (fun i hi e => N6.out (by rw [hd] at hi; exact e ▸ hi)), ?_, HD.out.lf, ?_, ?_, hdB, ?_⟩, ?_, Nat.le_add_right _ _, HSS.out, ?_⟩
  · have h1 := R2.out.far T3.out n1 n2 (fun i hi e => by omega)
    rw [HT'.out, data_append]
    exact h1
  · rw [hd]; exact R3.out
  · rw [hd]; exact HD.out.i
  · rw [hd, LD.fill_out, LD.took_out, HOL.out, HD.out.o]
  · rw [hd]; exact HKB.out
  · rw [hd]; exact ⟨rfl, rfl, rfl, rfl, rfl⟩
  · exact (T0.out.drew.trans' T2.out (fun i hi h => h.elim (fun h => .inr (.inl h)) (fun h => h.elim (fun h => .inr (.inr (.inr (.inl h)))) (fun h => .inr (.inr (.inr (.inr (h.back TWD.out hi id)))))))).trans (T3.out.mono fun _ _ h => .inl h)
set_option maxHeartbeats 2000000 in
theorem dact_use {w : World} {B db wb sb kb at_ : Nat} {S T Lf In Out : ByteArray} {E : Bool} {d : LD} (h : Desk w B db wb sb kb S at_ E T d Lf In Out) (op n : Int) (x : ByteArray) (hn0 : -9223372036854775808 ≤ n) (hn : n ≤ 9223372036854775807) (hx : x.size ≤ 300) (hS : S.size ≤ 18000) (hO : T.size + Out.size ≤ 18000) (ho : op = 6) :
    Calls Try.prog 20 #[.pointer (some ⟨db, 0, none⟩), .agg #[.int .i64 op, .int .i64 n, .string x]] w (DeskPost w B db wb sb kb d (S.size + x.size) (T.size + Out.size + x.size) (.bool true)) := by
  obtain ⟨n1, n2, n3, n4, n5, n6⟩ := h.apart
  obtain ⟨s1, s2, s3, s4, s5, s6, s7⟩ := h.sizes
  have hBw := h.wr.hB
  have hdB := h.hd
  have hwB := h.wr.hb
  have hsB := h.wr.hs
  have HKB := Lib.hid h.hk
  have N4 := Lib.hid n4
  have N5 := Lib.hid n5
  have N6 := Lib.hid n6
  have NA := Lib.hid (show ¬ d.blocks kb w.heap.size from fun hi => by have := h.hk _ hi; omega)
  clear n4 n5 n6
  obtain ⟨W, hW⟩ : ∃ W, W = w.alloc (.cells #[.int .i64 op, .int .i64 n, .string x] 54) := ⟨_, rfl⟩
  have tW : Touch (fun _ => False) w W := by rw [hW]; exact (Touch.refl _ _).alloc _
  have hb : Blk W w.heap.size #[.int .i64 op, .int .i64 n, .string x] 54 := by rw [hW]; exact Blk.new _ _ _
  have hw1 : Desk W B db wb sb kb S at_ E T d Lf In Out := h.far tW (fun _ _ => id)
  have cw1 : W.cell? ⟨w.heap.size, 1, none⟩ = some (.int .i64 n) := hb.cell 1
  have cw2 : W.cell? ⟨w.heap.size, 2, none⟩ = some (.string x) := hb.cell 2
  have k0 : W.cell? ⟨db, 0, none⟩ = some (.pointer (some ⟨wb, 0, none⟩)) := hw1.dk.cell 0
  have k1 : W.cell? ⟨db, 1, none⟩ = some (.pointer (some ⟨kb, 0, none⟩)) := hw1.dk.cell 1
  have HD := Lib.hid hw1
  have HBW := Lib.hid hb
  have T0 := Lib.hid (show Touch (fun i => i = db ∨ i = wb ∨ i = sb ∨ d.blocks kb i ∨ Row w B i) w W from tW.mono fun _ _ => False.elim)
  have HWE := Lib.hid hW
  have TWD := Lib.hid tW.drew
  have HSZ := Lib.hid (And.intro s1 (And.intro s2 s3))
  clear h tW hb hw1 hW s1 s2 s3
  have e1 : (op == 1) = false := by rw [beq_eq_false_iff_ne]; omega
  have e2 : (op == 2) = false := by rw [beq_eq_false_iff_ne]; omega
  have e3 : (op == 3) = false := by rw [beq_eq_false_iff_ne]; omega
  have e4 : (op == 4) = false := by rw [beq_eq_false_iff_ne]; omega
  have e5 : (op == 5) = false := by rw [beq_eq_false_iff_ne]; omega
  have e6 : (op == 6) = true := by rw [beq_iff_eq]; omega
  clear ho
  have hna2 : ¬ (w.heap.size = db) := by omega
  have s2 := HSZ.out.2.1
  obtain ⟨In', hI'⟩ : ∃ y : ByteArray, y = ⟨(In.data.toList.drop n.toNat).toArray⟩ := ⟨_, rfl⟩
  have hil : In'.data.toList = In.data.toList.drop n.toNat := by rw [hI']
  have HIL := Lib.hid hil
  have hb1 : In.size ≤ 4611686018427387903 := by omega
  clear hI' hil s2
  go_enter Try.func20, Try.ntmps20
  go_wp2_with fail
  rw [← HWE.out]
  refine wp_region_drew_tail 6 (by kernel_rfl) (by kernel_rfl) ?_
  simp only [List.take_succ_cons, List.take_zero, List.drop_succ_cons, List.drop_zero]
  repeat go_big_quiet_step (fail)
  refine wpQuiet_nil ?_
  rintro _ ⟨n1q, rfl⟩
  go_wp2_with fail
  have h1 := HD.out.far (P := fun _ => False) ((Touch.refl _ _).drewN n1q) (fun _ _ => id)
  have H1 := Lib.hid h1
  clear h1
  refine (use_any H1.out.l n hn).mono ?_
  rintro e w2 ⟨rfl, l2, t2⟩
  have k02 : w2.cell? ⟨w.heap.size, 1, none⟩ = some (.int .i64 n) := Touch.cell (w := W.drewN n1q) t2 NA.out cw1
  have h2 := H1.out.dk.touch t2 N6.out
  have r2 := H1.out.wr.far t2 N4.out N5.out (fun i hi h => by have := HKB.out i h; omega)
  have L2 := Lib.hid l2
  have H2 := Lib.hid h2
  have R2 := Lib.hid r2
  have T2 := Lib.hid t2
  clear l2 h2 r2 t2
  go_wp2_with fail
  refine wp_region_drew_tail 5 (by kernel_rfl) (by kernel_rfl) ?_
  simp only [List.take_succ_cons, List.take_zero, List.drop_succ_cons, List.drop_zero]
  repeat go_big_quiet_step (fail)
  refine wpQuiet_nil ?_
  rintro _ ⟨n2q, rfl⟩
  go_wp2_with fail
  refine (duse_any (H2.out.touch (P := fun _ => False) ((Touch.refl _ _).drewN n2q) id) n hb1 In' HIL.out).mono ?_
  rintro e w3 ⟨rfl, h3, t3⟩
  have H3 := Lib.hid h3
  have T3 := Lib.hid t3
  clear h3 t3
  go_wp2_with fail
  go_ret
  exact ⟨rfl, S, at_, E, T, { d with I := d.I.drop n.toNat }, Lf, In', Out, ⟨(R2.out.far (P := fun _ => False) ((Touch.refl _ _).drewN n2q) id id (fun _ _ => id)).far T3.out n1 n2 (fun i hi e => by omega), (L2.out.far (P := fun _ => False) ((Touch.refl _ _).drewN n2q) (fun _ _ => id)).far T3.out (fun i hi e => N6.out (e ▸ hi)), H3.out, HD.out.lf, by rw [HIL.out, HD.out.i], HD.out.o, hdB, HKB.out⟩, ⟨rfl, rfl, rfl, rfl, rfl⟩, Nat.le_add_right _ _, Nat.le_add_right _ _, (((T0.out.drewN _).trans (T2.out.mono fun _ _ h => .inr (.inr (.inr (.inl h))))).drewN _).trans (T3.out.mono fun _ _ h => .inl h)⟩
set_option maxHeartbeats 2000000 in
theorem dact_shut {w : World} {B db wb sb kb at_ : Nat} {S T Lf In Out : ByteArray} {E : Bool} {d : LD} (h : Desk w B db wb sb kb S at_ E T d Lf In Out) (op n : Int) (x : ByteArray) (hn0 : -9223372036854775808 ≤ n) (hn : n ≤ 9223372036854775807) (hx : x.size ≤ 300) (hS : S.size ≤ 18000) (hO : T.size + Out.size ≤ 18000) (ho : op = 7) :
    Calls Try.prog 20 #[.pointer (some ⟨db, 0, none⟩), .agg #[.int .i64 op, .int .i64 n, .string x]] w (DeskPost w B db wb sb kb d (S.size + x.size) (T.size + Out.size + x.size) (.bool true)) := by
  obtain ⟨n1, n2, n3, n4, n5, n6⟩ := h.apart
  obtain ⟨s1, s2, s3, s4, s5, s6, s7⟩ := h.sizes
  have hBw := h.wr.hB
  have hdB := h.hd
  have hwB := h.wr.hb
  have hsB := h.wr.hs
  have HKB := Lib.hid h.hk
  have N4 := Lib.hid n4
  have N5 := Lib.hid n5
  have N6 := Lib.hid n6
  have NA := Lib.hid (show ¬ d.blocks kb w.heap.size from fun hi => by have := h.hk _ hi; omega)
  clear n4 n5 n6
  obtain ⟨W, hW⟩ : ∃ W, W = w.alloc (.cells #[.int .i64 op, .int .i64 n, .string x] 54) := ⟨_, rfl⟩
  have tW : Touch (fun _ => False) w W := by rw [hW]; exact (Touch.refl _ _).alloc _
  have hb : Blk W w.heap.size #[.int .i64 op, .int .i64 n, .string x] 54 := by rw [hW]; exact Blk.new _ _ _
  have hw1 : Desk W B db wb sb kb S at_ E T d Lf In Out := h.far tW (fun _ _ => id)
  have cw1 : W.cell? ⟨w.heap.size, 1, none⟩ = some (.int .i64 n) := hb.cell 1
  have cw2 : W.cell? ⟨w.heap.size, 2, none⟩ = some (.string x) := hb.cell 2
  have k0 : W.cell? ⟨db, 0, none⟩ = some (.pointer (some ⟨wb, 0, none⟩)) := hw1.dk.cell 0
  have k1 : W.cell? ⟨db, 1, none⟩ = some (.pointer (some ⟨kb, 0, none⟩)) := hw1.dk.cell 1
  have HD := Lib.hid hw1
  have HBW := Lib.hid hb
  have T0 := Lib.hid (show Touch (fun i => i = db ∨ i = wb ∨ i = sb ∨ d.blocks kb i ∨ Row w B i) w W from tW.mono fun _ _ => False.elim)
  have HWE := Lib.hid hW
  have TWD := Lib.hid tW.drew
  have HSZ := Lib.hid (And.intro s1 (And.intro s2 s3))
  clear h tW hb hw1 hW s1 s2 s3
  have e1 : (op == 1) = false := by rw [beq_eq_false_iff_ne]; omega
  have e2 : (op == 2) = false := by rw [beq_eq_false_iff_ne]; omega
  have e3 : (op == 3) = false := by rw [beq_eq_false_iff_ne]; omega
  have e4 : (op == 4) = false := by rw [beq_eq_false_iff_ne]; omega
  have e5 : (op == 5) = false := by rw [beq_eq_false_iff_ne]; omega
  have e6 : (op == 6) = false := by rw [beq_eq_false_iff_ne]; omega
  have e7 : (op == 7) = true := by rw [beq_iff_eq]; omega
  clear ho
  have k0w := k0
  have k1w := k1
  rw [HWE.out] at k0w k1w
  go_enter Try.func20, Try.ntmps20
  go_wp2_with fail
  clear k0w k1w
  rw [← HWE.out]
  refine (shut_any HD.out.l).mono ?_
  rintro e w2 ⟨rfl, l2, t2⟩
  have h2 := HD.out.dk.touch t2 N6.out
  have r2 := HD.out.wr.far t2 N4.out N5.out (fun i hi h => by have := HKB.out i h; omega)
  have q10 : w2.cell? ⟨db, 10, none⟩ = some (.bool d.shut) := h2.cell 10
  have z10 : w2.frozen? ⟨db, 10, none⟩ = false := h2.froz 10
  have q6 : w2.cell? ⟨db, 6, none⟩ = some (.string In) := h2.cell 6
  have z6 : w2.frozen? ⟨db, 6, none⟩ = false := h2.froz 6
  have L2 := Lib.hid l2
  have H2 := Lib.hid h2
  have R2 := Lib.hid r2
  have T2 := Lib.hid t2
  clear l2 h2 r2 t2
  go_wp2_with fail
  go_ret
  have t3 : Touch (fun i => i = db) w2 ((w2.setCell ⟨db, 10, none⟩ (.bool true)).setCell ⟨db, 6, none⟩ (.string ⟨#[]⟩)) := ((Touch.refl _ _).setCell (P := fun i => i = db) rfl _).setCell (P := fun i => i = db) rfl _
  have hh : Dk ((w2.setCell ⟨db, 10, none⟩ (.bool true)).setCell ⟨db, 6, none⟩ (.string ⟨#[]⟩)) db (.pointer (some ⟨wb, 0, none⟩)) (.pointer (some ⟨kb, 0, none⟩)) Lf (S.size : Int) E T ⟨#[]⟩ Out (d.most : Int) d.ended true := Dk.set (Dk.set H2.out 10 (.bool true) rfl) 6 _ rfl
  exact ⟨rfl, S, at_, E, T, { d with shut := true, I := [] }, Lf, ⟨#[]⟩, Out, ⟨R2.out.far t3 n1 n2 (fun i hi e => by omega), L2.out.far t3 (fun i hi e => N6.out (e ▸ hi)), hh, HD.out.lf, rfl, HD.out.o, hdB, HKB.out⟩, ⟨rfl, rfl, rfl, rfl, rfl⟩, Nat.le_add_right _ _, Nat.le_add_right _ _, (T0.out.trans (T2.out.mono fun _ _ h => .inr (.inr (.inr (.inl h))))).trans (t3.mono fun _ _ h => .inl h)⟩
theorem dact_any {w : World} {B db wb sb kb at_ : Nat} {S T Lf In Out : ByteArray} {E : Bool} {d : LD} (h : Desk w B db wb sb kb S at_ E T d Lf In Out) (op n : Int) (x : ByteArray) (hn0 : -9223372036854775808 ≤ n) (hn : n ≤ 9223372036854775807) (hx : x.size ≤ 300) (hS : S.size ≤ 18000) (hO : T.size + Out.size ≤ 18000) :
    Calls Try.prog 20 #[.pointer (some ⟨db, 0, none⟩), .agg #[.int .i64 op, .int .i64 n, .string x]] w (DeskPost w B db wb sb kb d (S.size + x.size) (T.size + Out.size + x.size) (.bool true)) := by
  by_cases h1 : op = 1
  · cases hE : E with
    | true => subst hE; exact dact_send_off h op n x hn0 hn hx hS hO h1 rfl
    | false => subst hE; exact dact_send h op n x hn0 hn hx hS hO h1 rfl
  by_cases h2 : op = 2
  · exact dact_end h op n x hn0 hn hx hS hO h2
  by_cases h3 : op = 3
  · exact dact_read h op n x hn0 hn hx hS hO h3
  by_cases h4 : op = 4
  · cases hc : d.shut with
    | true => exact dact_write_shut h op n x hn0 hn hx hS hO h4 hc
    | false => exact dact_write h op n x hn0 hn hx hS hO h4 hc
  by_cases h5 : op = 5
  · exact dact_grant h op n x hn0 hn hx hS hO h5
  by_cases h6 : op = 6
  · exact dact_use h op n x hn0 hn hx hS hO h6
  by_cases h7 : op = 7
  · exact dact_shut h op n x hn0 hn hx hS hO h7
  · exact dact_other h op n x hn0 hn hx hS hO (by omega)
end Go.Proofs.Ytekbmefdaepgcaa

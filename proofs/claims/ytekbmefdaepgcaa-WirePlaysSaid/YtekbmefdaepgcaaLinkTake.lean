/- Links of package link: Take. -/
import Derived.Test.YtekbmefdaepgcaaLinkTurn
namespace Go.Proofs.Ytekbmefdaepgcaa
open Go.RowKit
def LD.rest (d : LD) (n : Int) : Nat := min (n.toNat - d.O.length) d.more.size
def LD.took (d : LD) (n : Int) : LD := { d with O := d.O.drop n.toNat, more := d.more.extract (d.rest n) d.more.size }
theorem LD.took_nil (d : LD) (n : Int) (h : n ≤ 0) : d.took n = d := by
  have h0 : n.toNat = 0 := by omega
  have h1 : d.rest n = 0 := by unfold LD.rest; rw [h0]; omega
  unfold LD.took
  rw [h0, h1, List.drop_zero]
  have : d.more.extract 0 d.more.size = d.more := bytes_ext (by rw [data_extract, List.drop_zero, List.take_of_length_le (by rw [bsize]; omega)])
  rw [this]
/-- Links in worlds of the same old blocks. -/
theorem IsL.keepB {w w1 : World} {b : Nat} {d : LD} (h : IsL w b d) (hb : Below w.heap.size w w1) : IsL w1 b d := h.far (P := fun _ => False) (Touch.of_below hb) (fun _ _ => id)
theorem IsL.lt {w : World} {b : Nat} {d : LD} (h : IsL w b d) : ∀ i, d.blocks b i → i < w.heap.size := by
  obtain ⟨_, a1⟩ := h.inq.head
  obtain ⟨_, a2⟩ := h.inq.rowb
  obtain ⟨_, a3⟩ := h.outq.head
  obtain ⟨_, a4⟩ := h.outq.rowb
  rintro i (rfl | rfl | rfl | rfl | rfl)
  · exact h.head.lt
  · exact a1.lt
  · exact a2.lt
  · exact a3.lt
  · exact a4.lt
theorem Touch.setNew {P : Nat → Prop} {w w1 : World} (h : Touch P w w1) {p : Addr} (hp : w.heap.size ≤ p.block) (u : Value) : Touch P w (w1.setCell p u) :=
  ⟨h.os, h.tape, h.output, by simpa using h.size, fun k hk hk2 => (Below.heap_setCell _ _ _ _ (by omega)).trans (h.block k hk hk2)⟩
theorem IsL.take_end {w3 : World} {b : Nat} {d : LD} (h3 : IsL w3 b d) (N pa : Nat) (hpa : ∀ i, d.blocks b i → i ≠ pa) (u : Value) (M : ByteArray) :
    IsL (((w3.drewN N).setCell ⟨pa, 1, none⟩ u).setCell ⟨b, 2, none⟩ (.string M)) b { d with more := M } := by
  have e2 := h3.far (P := fun k => k = pa) (Touch.setCell (P := fun k => k = pa) (p := ⟨pa, 1, none⟩) ((Touch.refl _ w3).drewN N) rfl u) (fun i hi e => hpa i hi e)
  exact IsL.store (d := d) (d' := { d with more := M }) e2.head e2.inq e2.outq e2.nb e2.ng 2 _ rfl rfl rfl rfl rfl rfl
theorem Blk.take_end {w3 : World} {b pa : Nat} {y r : ByteArray} {t : TypeId} (h : Blk w3 pa #[.string y, .string ⟨#[]⟩] t) (hb : pa ≠ b) (N : Nat) (u : Value) :
    Blk (((w3.drewN N).setCell ⟨pa, 1, none⟩ (.string r)).setCell ⟨b, 2, none⟩ u) pa #[.string y, .string r] t :=
  Blk.far (p := ⟨b, 2, none⟩) ((h.drewN N).set 1 (.string r)) hb u
set_option maxHeartbeats 1000000 in
theorem ltake_neg {w : World} {b : Nat} {d : LD} (h : IsL w b d) (n : Int) (hn : n ≤ 9223372036854775807) (hn0 : -9223372036854775808 ≤ n) (hs : d.more.size ≤ 4611686018427387903) (hc : n ≤ 0) (x y : ByteArray) (hy : y = ⟨(d.O.take n.toNat).toArray⟩) (hx : x = y ++ ⟨#[]⟩) :
    Calls Try.prog 108 #[.pointer (some ⟨b, 0, none⟩), .int .i64 n] w fun e w' => e = .returned (.string x) ∧ IsL w' b (d.took n).fill ∧ Touch (d.blocks b) w w' := by
  have hle := h.outq.le
  have hm := h.qm
  have hlt := Lib.hid h.lt
  have hbl : b < w.heap.size := hlt.out b (.inl rfl)
  have c0 : w.cell? ⟨b, 0, none⟩ = some (.pointer (some ⟨d.bi, 0, none⟩)) := h.head.cell 0
  have c1 : w.cell? ⟨b, 1, none⟩ = some (.pointer (some ⟨d.bo, 0, none⟩)) := h.head.cell 1
  have hyz : y.size = min n.toNat d.O.length := by rw [hy]; show (d.O.take n.toNat).toArray.size = _; rw [List.size_toArray, List.length_take]
  have hy0 : y.size ≤ 0 := by omega
  have HY := Lib.hid hy
  have HX := Lib.hid hx
  have H := Lib.hid h
  have HYZ := Lib.hid hyz
  clear hy h hx hyz
  go_enter Try.func108, Try.ntmps108
  go_wp2_with fail
  refine (made_yes H.out).mono ?_
  rintro e w' ⟨rfl, rfl⟩
  go_wp2_with fail
  have h1 : IsL (w.alloc (.cells #[.string ⟨#[]⟩, .string ⟨#[]⟩] 163)) b d := H.out.keepB ((Below.refl _ _).alloc (Nat.le_refl _) _)
  refine (take_at h1.outq n hn y _ HY.out rfl).mono ?_
  rintro e w2 ⟨rfl, q2, t2⟩
  have h2 := h1.out q2 t2
  have p2 : Blk w2 w.heap.size #[.string ⟨#[]⟩, .string ⟨#[]⟩] 163 := (Blk.new _ _ _).touch t2 (by have := hlt.out d.bo (.inr (.inr (.inr (.inl rfl)))); have := hlt.out d.go (.inr (.inr (.inr (.inr rfl)))); omega)
  have s2 : Touch (d.blocks b) w w2 := ((Touch.refl _ w).alloc _).trans (t2.mono fun i _ h => d.of_out b i h)
  have p3 : Blk (w2.setCell ⟨w.heap.size, 0, none⟩ (.string y)) w.heap.size #[.string y, .string ⟨#[]⟩] 163 := p2.set 0 _
  have t3 : Touch (fun k => k = w.heap.size) w2 (w2.setCell ⟨w.heap.size, 0, none⟩ (.string y)) := Touch.setCell (P := fun k => k = w.heap.size) (Touch.refl _ _) rfl _
  have h3 := h2.far t3 (fun i hi e => by have := hlt.out i hi; omega)
  have s3 : Touch (d.blocks b) w (w2.setCell ⟨w.heap.size, 0, none⟩ (.string y)) := ⟨s2.os, s2.tape, s2.output, by simpa using s2.size, fun k hk hp => (t3.block k (by have := s2.size; omega) (by omega)).trans (s2.block k hk hp)⟩
  obtain ⟨w3, hw3⟩ : ∃ z, z = w2.setCell ⟨w.heap.size, 0, none⟩ (.string y) := ⟨_, rfl⟩
  rw [← hw3] at p3 h3 s3
  have g0 : w2.cell? ⟨w.heap.size, 0, none⟩ = some (.string ⟨#[]⟩) := p2.cell 0
  have gz : w2.frozen? ⟨w.heap.size, 0, none⟩ = false := p2.froz 0
  have hw3' := Lib.hid hw3
  clear q2 t2 t3 s2 hw3
  go_upto_region 5 with fail
  clear g0 gz p2 h2 h1
  rw [← hw3'.out]
  clear hw3'
  have k1 : w3.cell? ⟨b, 1, none⟩ = some (.pointer (some ⟨d.bo, 0, none⟩)) := h3.head.cell 1
  have k2 : w3.cell? ⟨b, 2, none⟩ = some (.string d.more) := h3.head.cell 2
  have kz2 : w3.frozen? ⟨b, 2, none⟩ = false := h3.head.froz 2
  have g0 : w3.cell? ⟨w.heap.size, 0, none⟩ = some (.string y) := p3.cell 0
  have g1 : w3.cell? ⟨w.heap.size, 1, none⟩ = some (.string ⟨#[]⟩) := p3.cell 1
  have gz1 : w3.frozen? ⟨w.heap.size, 1, none⟩ = false := p3.froz 1
  have H3 := Lib.hid h3
  have S3 := Lib.hid s3
  have P3 := Lib.hid p3
  clear h3 s3 p3
  go_quiet (fail)
  go_wp2_with fail
  refine (fill_any (H3.out.far (P := fun _ => False) ((Touch.refl _ _).drewN _) (fun _ _ => id)) (by have h := hs; exact (show d.more.size ≤ 9223372036854775807 by omega))).mono ?_
  rintro e w4 ⟨rfl, h4, t4⟩
  have P4 := (P3.out.drewN _).touch t4 (fun hb => by have := hlt.out _ hb; omega)
  have g0' : w4.cell? ⟨w.heap.size, 0, none⟩ = some (.string y) := P4.cell 0
  have g1' : w4.cell? ⟨w.heap.size, 1, none⟩ = some (.string ⟨#[]⟩) := P4.cell 1
  have hadd := fun (W : World) => run_string_add_sum (P := Try.prog) (w := W) y ⟨#[]⟩ (by have := HYZ.out; show y.size + 0 ≤ _; omega)
  go_wp2_with fail
  go_ret
  refine ⟨ret_string HX.out.symm, ?_, (S3.out.drewN _).trans t4⟩
  rw [LD.took_nil d n (by omega)]
  have hO : d.O.drop n.toNat = d.O := by rw [show n.toNat = 0 from by omega]; rfl
  rw [hO] at h4
  exact h4
set_option maxHeartbeats 1000000 in
theorem ltake_in {w : World} {b : Nat} {d : LD} (h : IsL w b d) (n : Int) (hn : n ≤ 9223372036854775807) (hn0 : -9223372036854775808 ≤ n) (hs : d.more.size ≤ 4611686018427387903) (hc : 0 < n) (hc2 : n ≤ d.O.length) (x y : ByteArray) (hy : y = ⟨(d.O.take n.toNat).toArray⟩) (hx : x = y ++ ByteArray.empty) :
    Calls Try.prog 108 #[.pointer (some ⟨b, 0, none⟩), .int .i64 n] w fun e w' => e = .returned (.string x) ∧ IsL w' b (d.took n).fill ∧ Touch (d.blocks b) w w' := by
  have hle := h.outq.le
  have hm := h.qm
  have hlt := Lib.hid h.lt
  have hbl : b < w.heap.size := hlt.out b (.inl rfl)
  have c0 : w.cell? ⟨b, 0, none⟩ = some (.pointer (some ⟨d.bi, 0, none⟩)) := h.head.cell 0
  have c1 : w.cell? ⟨b, 1, none⟩ = some (.pointer (some ⟨d.bo, 0, none⟩)) := h.head.cell 1
  have hyz : y.size = min n.toNat d.O.length := by rw [hy]; show (d.O.take n.toNat).toArray.size = _; rw [List.size_toArray, List.length_take]
  have hym1 : y.size ≤ n := by omega
  have hym2 : n ≤ y.size := by omega
  have HY := Lib.hid hy
  have HX := Lib.hid hx
  have H := Lib.hid h
  have HYZ := Lib.hid hyz
  clear hy h hx hyz
  go_enter Try.func108, Try.ntmps108
  go_wp2_with fail
  refine (made_yes H.out).mono ?_
  rintro e w' ⟨rfl, rfl⟩
  go_wp2_with fail
  have h1 : IsL (w.alloc (.cells #[.string ⟨#[]⟩, .string ⟨#[]⟩] 163)) b d := H.out.keepB ((Below.refl _ _).alloc (Nat.le_refl _) _)
  refine (take_at h1.outq n hn y _ HY.out rfl).mono ?_
  rintro e w2 ⟨rfl, q2, t2⟩
  have h2 := h1.out q2 t2
  have p2 : Blk w2 w.heap.size #[.string ⟨#[]⟩, .string ⟨#[]⟩] 163 := (Blk.new _ _ _).touch t2 (by have := hlt.out d.bo (.inr (.inr (.inr (.inl rfl)))); have := hlt.out d.go (.inr (.inr (.inr (.inr rfl)))); omega)
  have s2 : Touch (d.blocks b) w w2 := ((Touch.refl _ w).alloc _).trans (t2.mono fun i _ h => d.of_out b i h)
  have p3 : Blk (w2.setCell ⟨w.heap.size, 0, none⟩ (.string y)) w.heap.size #[.string y, .string ⟨#[]⟩] 163 := p2.set 0 _
  have t3 : Touch (fun k => k = w.heap.size) w2 (w2.setCell ⟨w.heap.size, 0, none⟩ (.string y)) := Touch.setCell (P := fun k => k = w.heap.size) (Touch.refl _ _) rfl _
  have h3 := h2.far t3 (fun i hi e => by have := hlt.out i hi; omega)
  have s3 : Touch (d.blocks b) w (w2.setCell ⟨w.heap.size, 0, none⟩ (.string y)) := ⟨s2.os, s2.tape, s2.output, by simpa using s2.size, fun k hk hp => (t3.block k (by have := s2.size; omega) (by omega)).trans (s2.block k hk hp)⟩
  obtain ⟨w3, hw3⟩ : ∃ z, z = w2.setCell ⟨w.heap.size, 0, none⟩ (.string y) := ⟨_, rfl⟩
  rw [← hw3] at p3 h3 s3
  have g0 : w2.cell? ⟨w.heap.size, 0, none⟩ = some (.string ⟨#[]⟩) := p2.cell 0
  have gz : w2.frozen? ⟨w.heap.size, 0, none⟩ = false := p2.froz 0
  have hw3' := Lib.hid hw3
  clear q2 t2 t3 s2 hw3
  go_upto_region 5 with fail
  clear g0 gz p2 h2 h1
  rw [← hw3'.out]
  clear hw3'
  have k1 : w3.cell? ⟨b, 1, none⟩ = some (.pointer (some ⟨d.bo, 0, none⟩)) := h3.head.cell 1
  have k2 : w3.cell? ⟨b, 2, none⟩ = some (.string d.more) := h3.head.cell 2
  have kz2 : w3.frozen? ⟨b, 2, none⟩ = false := h3.head.froz 2
  have g0 : w3.cell? ⟨w.heap.size, 0, none⟩ = some (.string y) := p3.cell 0
  have g1 : w3.cell? ⟨w.heap.size, 1, none⟩ = some (.string ⟨#[]⟩) := p3.cell 1
  have gz1 : w3.frozen? ⟨w.heap.size, 1, none⟩ = false := p3.froz 1
  have H3 := Lib.hid h3
  have S3 := Lib.hid s3
  have P3 := Lib.hid p3
  clear h3 s3 p3
  go_quiet (fail)
  go_wp2_with fail
  go_region
  go_wp2_with fail
  have hpa : ∀ i, LD.blocks { d with O := d.O.drop n.toNat } b i → i ≠ w.heap.size := fun i hi e => by have := hlt.out i hi; omega
  obtain ⟨r, hr⟩ : ∃ r : ByteArray, r = ByteArray.empty := ⟨_, rfl⟩
  obtain ⟨M, hM⟩ : ∃ M : ByteArray, M = d.more := ⟨_, rfl⟩
  have hdt : d.took n = { d with O := d.O.drop n.toNat, more := M } := by
    unfold LD.took
    rw [hM]
    congr 1
    have : d.rest n = 0 := by unfold LD.rest; omega
    rw [this]
    exact bytes_ext (by rw [data_extract, List.drop_zero, List.take_of_length_le (by rw [bsize]; omega)])
  have hMz : (d.took n).more.size ≤ 9223372036854775807 := by
    show (d.more.extract (d.rest n) d.more.size).size ≤ _
    rw [ByteArray.size_extract]
    omega
  have hrz : y.size + r.size ≤ 9223372036854775807 := by
    have h1 := HYZ.out
    have h2 : r.size ≤ d.more.size := by rw [hr]; exact Nat.zero_le _
    omega
  rw [← hr, ← hM]
  rw [← hr] at HX
  have hb' : w.heap.size ≠ b := by omega
  have HDT := Lib.hid hdt
  clear hr hM hdt
  refine (fill_any (d := d.took n) (by rw [HDT.out]; exact IsL.take_end H3.out _ _ hpa _ _) hMz).mono ?_
  rintro e w5 ⟨rfl, h5, t5⟩
  have P5 := (Blk.take_end P3.out hb' _ _).touch t5 (fun hb => by have := hlt.out _ hb; omega)
  have g0' : w5.cell? ⟨w.heap.size, 0, none⟩ = some (.string y) := P5.cell 0
  have g1' : w5.cell? ⟨w.heap.size, 1, none⟩ = some (.string r) := P5.cell 1
  have hadd := fun (W : World) => run_string_add_sum (P := Try.prog) (w := W) y r hrz
  have T5 := Lib.hid t5
  have H5 := Lib.hid h5
  clear t5 h5 P5
  go_wp2_with fail
  go_ret
  refine ⟨ret_string HX.out.symm, H5.out, ?_⟩
  exact (((S3.out.drewN _).setNew (Nat.le_refl _) _).setCell (d.of_b b) _).trans T5.out
set_option maxHeartbeats 1000000 in
theorem ltake_mid {w : World} {b : Nat} {d : LD} (h : IsL w b d) (n : Int) (hn : n ≤ 9223372036854775807) (hn0 : -9223372036854775808 ≤ n) (hs : d.more.size ≤ 4611686018427387903) (hc : d.O.length < n) (hc2 : n ≤ d.O.length + d.more.size) (x y : ByteArray) (hy : y = ⟨(d.O.take n.toNat).toArray⟩) (hx : x = y ++ d.more.extract 0 (n.toNat - y.size)) :
    Calls Try.prog 108 #[.pointer (some ⟨b, 0, none⟩), .int .i64 n] w fun e w' => e = .returned (.string x) ∧ IsL w' b (d.took n).fill ∧ Touch (d.blocks b) w w' := by
  have hle := h.outq.le
  have hm := h.qm
  have hlt := Lib.hid h.lt
  have hbl : b < w.heap.size := hlt.out b (.inl rfl)
  have c0 : w.cell? ⟨b, 0, none⟩ = some (.pointer (some ⟨d.bi, 0, none⟩)) := h.head.cell 0
  have c1 : w.cell? ⟨b, 1, none⟩ = some (.pointer (some ⟨d.bo, 0, none⟩)) := h.head.cell 1
  have hyz : y.size = min n.toNat d.O.length := by rw [hy]; show (d.O.take n.toNat).toArray.size = _; rw [List.size_toArray, List.length_take]
  have hym1 : y.size ≤ d.O.length := by omega
  have hym2 : d.O.length ≤ y.size := by omega
  have HY := Lib.hid hy
  have HX := Lib.hid hx
  have H := Lib.hid h
  have HYZ := Lib.hid hyz
  clear hy h hx hyz
  go_enter Try.func108, Try.ntmps108
  go_wp2_with fail
  refine (made_yes H.out).mono ?_
  rintro e w' ⟨rfl, rfl⟩
  go_wp2_with fail
  have h1 : IsL (w.alloc (.cells #[.string ⟨#[]⟩, .string ⟨#[]⟩] 163)) b d := H.out.keepB ((Below.refl _ _).alloc (Nat.le_refl _) _)
  refine (take_at h1.outq n hn y _ HY.out rfl).mono ?_
  rintro e w2 ⟨rfl, q2, t2⟩
  have h2 := h1.out q2 t2
  have p2 : Blk w2 w.heap.size #[.string ⟨#[]⟩, .string ⟨#[]⟩] 163 := (Blk.new _ _ _).touch t2 (by have := hlt.out d.bo (.inr (.inr (.inr (.inl rfl)))); have := hlt.out d.go (.inr (.inr (.inr (.inr rfl)))); omega)
  have s2 : Touch (d.blocks b) w w2 := ((Touch.refl _ w).alloc _).trans (t2.mono fun i _ h => d.of_out b i h)
  have p3 : Blk (w2.setCell ⟨w.heap.size, 0, none⟩ (.string y)) w.heap.size #[.string y, .string ⟨#[]⟩] 163 := p2.set 0 _
  have t3 : Touch (fun k => k = w.heap.size) w2 (w2.setCell ⟨w.heap.size, 0, none⟩ (.string y)) := Touch.setCell (P := fun k => k = w.heap.size) (Touch.refl _ _) rfl _
  have h3 := h2.far t3 (fun i hi e => by have := hlt.out i hi; omega)
  have s3 : Touch (d.blocks b) w (w2.setCell ⟨w.heap.size, 0, none⟩ (.string y)) := ⟨s2.os, s2.tape, s2.output, by simpa using s2.size, fun k hk hp => (t3.block k (by have := s2.size; omega) (by omega)).trans (s2.block k hk hp)⟩
  obtain ⟨w3, hw3⟩ : ∃ z, z = w2.setCell ⟨w.heap.size, 0, none⟩ (.string y) := ⟨_, rfl⟩
  rw [← hw3] at p3 h3 s3
  have g0 : w2.cell? ⟨w.heap.size, 0, none⟩ = some (.string ⟨#[]⟩) := p2.cell 0
  have gz : w2.frozen? ⟨w.heap.size, 0, none⟩ = false := p2.froz 0
  have hw3' := Lib.hid hw3
  clear q2 t2 t3 s2 hw3
  go_upto_region 5 with fail
  clear g0 gz p2 h2 h1
  rw [← hw3'.out]
  clear hw3'
  have k1 : w3.cell? ⟨b, 1, none⟩ = some (.pointer (some ⟨d.bo, 0, none⟩)) := h3.head.cell 1
  have k2 : w3.cell? ⟨b, 2, none⟩ = some (.string d.more) := h3.head.cell 2
  have kz2 : w3.frozen? ⟨b, 2, none⟩ = false := h3.head.froz 2
  have g0 : w3.cell? ⟨w.heap.size, 0, none⟩ = some (.string y) := p3.cell 0
  have g1 : w3.cell? ⟨w.heap.size, 1, none⟩ = some (.string ⟨#[]⟩) := p3.cell 1
  have gz1 : w3.frozen? ⟨w.heap.size, 1, none⟩ = false := p3.froz 1
  have H3 := Lib.hid h3
  have S3 := Lib.hid s3
  have P3 := Lib.hid p3
  clear h3 s3 p3
  go_quiet (fail)
  go_wp2_with fail
  go_region
  go_wp2_with fail
  have hpa : ∀ i, LD.blocks { d with O := d.O.drop n.toNat } b i → i ≠ w.heap.size := fun i hi e => by have := hlt.out i hi; omega
  obtain ⟨r, hr⟩ : ∃ r : ByteArray, r = d.more.extract 0 (n.toNat - y.size) := ⟨_, rfl⟩
  obtain ⟨M, hM⟩ : ∃ M : ByteArray, M = d.more.extract (min (n.toNat - y.size) d.more.size) d.more.size := ⟨_, rfl⟩
  have hdt : d.took n = { d with O := d.O.drop n.toNat, more := M } := by
    unfold LD.took
    rw [hM]
    congr 1
    have h1 := HYZ.out
    have : d.rest n = min (n.toNat - y.size) d.more.size := by unfold LD.rest; omega
    rw [this]
  have hMz : (d.took n).more.size ≤ 9223372036854775807 := by
    show (d.more.extract (d.rest n) d.more.size).size ≤ _
    rw [ByteArray.size_extract]
    omega
  have hrz : y.size + r.size ≤ 9223372036854775807 := by
    have h1 := HYZ.out
    have h2 : r.size ≤ d.more.size := by rw [hr]; rw [ByteArray.size_extract]; omega
    omega
  rw [← hr, ← hM]
  rw [← hr] at HX
  have hb' : w.heap.size ≠ b := by omega
  have HDT := Lib.hid hdt
  clear hr hM hdt
  refine (fill_any (d := d.took n) (by rw [HDT.out]; exact IsL.take_end H3.out _ _ hpa _ _) hMz).mono ?_
  rintro e w5 ⟨rfl, h5, t5⟩
  have P5 := (Blk.take_end P3.out hb' _ _).touch t5 (fun hb => by have := hlt.out _ hb; omega)
  have g0' : w5.cell? ⟨w.heap.size, 0, none⟩ = some (.string y) := P5.cell 0
  have g1' : w5.cell? ⟨w.heap.size, 1, none⟩ = some (.string r) := P5.cell 1
  have hadd := fun (W : World) => run_string_add_sum (P := Try.prog) (w := W) y r hrz
  have T5 := Lib.hid t5
  have H5 := Lib.hid h5
  clear t5 h5 P5
  go_wp2_with fail
  go_ret
  refine ⟨ret_string HX.out.symm, H5.out, ?_⟩
  exact (((S3.out.drewN _).setNew (Nat.le_refl _) _).setCell (d.of_b b) _).trans T5.out
set_option maxHeartbeats 1000000 in
theorem ltake_far {w : World} {b : Nat} {d : LD} (h : IsL w b d) (n : Int) (hn : n ≤ 9223372036854775807) (hn0 : -9223372036854775808 ≤ n) (hs : d.more.size ≤ 4611686018427387903) (hc : d.O.length + d.more.size < n) (hc2 : 0 < d.more.size) (x y : ByteArray) (hy : y = ⟨(d.O.take n.toNat).toArray⟩) (hx : x = y ++ d.more) :
    Calls Try.prog 108 #[.pointer (some ⟨b, 0, none⟩), .int .i64 n] w fun e w' => e = .returned (.string x) ∧ IsL w' b (d.took n).fill ∧ Touch (d.blocks b) w w' := by
  have hle := h.outq.le
  have hm := h.qm
  have hlt := Lib.hid h.lt
  have hbl : b < w.heap.size := hlt.out b (.inl rfl)
  have c0 : w.cell? ⟨b, 0, none⟩ = some (.pointer (some ⟨d.bi, 0, none⟩)) := h.head.cell 0
  have c1 : w.cell? ⟨b, 1, none⟩ = some (.pointer (some ⟨d.bo, 0, none⟩)) := h.head.cell 1
  have hyz : y.size = min n.toNat d.O.length := by rw [hy]; show (d.O.take n.toNat).toArray.size = _; rw [List.size_toArray, List.length_take]
  have hym1 : y.size ≤ d.O.length := by omega
  have hym2 : d.O.length ≤ y.size := by omega
  have HY := Lib.hid hy
  have HX := Lib.hid hx
  have H := Lib.hid h
  have HYZ := Lib.hid hyz
  clear hy h hx hyz
  go_enter Try.func108, Try.ntmps108
  go_wp2_with fail
  refine (made_yes H.out).mono ?_
  rintro e w' ⟨rfl, rfl⟩
  go_wp2_with fail
  have h1 : IsL (w.alloc (.cells #[.string ⟨#[]⟩, .string ⟨#[]⟩] 163)) b d := H.out.keepB ((Below.refl _ _).alloc (Nat.le_refl _) _)
  refine (take_at h1.outq n hn y _ HY.out rfl).mono ?_
  rintro e w2 ⟨rfl, q2, t2⟩
  have h2 := h1.out q2 t2
  have p2 : Blk w2 w.heap.size #[.string ⟨#[]⟩, .string ⟨#[]⟩] 163 := (Blk.new _ _ _).touch t2 (by have := hlt.out d.bo (.inr (.inr (.inr (.inl rfl)))); have := hlt.out d.go (.inr (.inr (.inr (.inr rfl)))); omega)
  have s2 : Touch (d.blocks b) w w2 := ((Touch.refl _ w).alloc _).trans (t2.mono fun i _ h => d.of_out b i h)
  have p3 : Blk (w2.setCell ⟨w.heap.size, 0, none⟩ (.string y)) w.heap.size #[.string y, .string ⟨#[]⟩] 163 := p2.set 0 _
  have t3 : Touch (fun k => k = w.heap.size) w2 (w2.setCell ⟨w.heap.size, 0, none⟩ (.string y)) := Touch.setCell (P := fun k => k = w.heap.size) (Touch.refl _ _) rfl _
  have h3 := h2.far t3 (fun i hi e => by have := hlt.out i hi; omega)
  have s3 : Touch (d.blocks b) w (w2.setCell ⟨w.heap.size, 0, none⟩ (.string y)) := ⟨s2.os, s2.tape, s2.output, by simpa using s2.size, fun k hk hp => (t3.block k (by have := s2.size; omega) (by omega)).trans (s2.block k hk hp)⟩
  obtain ⟨w3, hw3⟩ : ∃ z, z = w2.setCell ⟨w.heap.size, 0, none⟩ (.string y) := ⟨_, rfl⟩
  rw [← hw3] at p3 h3 s3
  have g0 : w2.cell? ⟨w.heap.size, 0, none⟩ = some (.string ⟨#[]⟩) := p2.cell 0
  have gz : w2.frozen? ⟨w.heap.size, 0, none⟩ = false := p2.froz 0
  have hw3' := Lib.hid hw3
  clear q2 t2 t3 s2 hw3
  go_upto_region 5 with fail
  clear g0 gz p2 h2 h1
  rw [← hw3'.out]
  clear hw3'
  have k1 : w3.cell? ⟨b, 1, none⟩ = some (.pointer (some ⟨d.bo, 0, none⟩)) := h3.head.cell 1
  have k2 : w3.cell? ⟨b, 2, none⟩ = some (.string d.more) := h3.head.cell 2
  have kz2 : w3.frozen? ⟨b, 2, none⟩ = false := h3.head.froz 2
  have g0 : w3.cell? ⟨w.heap.size, 0, none⟩ = some (.string y) := p3.cell 0
  have g1 : w3.cell? ⟨w.heap.size, 1, none⟩ = some (.string ⟨#[]⟩) := p3.cell 1
  have gz1 : w3.frozen? ⟨w.heap.size, 1, none⟩ = false := p3.froz 1
  have H3 := Lib.hid h3
  have S3 := Lib.hid s3
  have P3 := Lib.hid p3
  clear h3 s3 p3
  go_quiet (fail)
  go_wp2_with fail
  go_region
  go_wp2_with fail
  have hpa : ∀ i, LD.blocks { d with O := d.O.drop n.toNat } b i → i ≠ w.heap.size := fun i hi e => by have := hlt.out i hi; omega
  obtain ⟨r, hr⟩ : ∃ r : ByteArray, r = d.more := ⟨_, rfl⟩
  obtain ⟨M, hM⟩ : ∃ M : ByteArray, M = ByteArray.empty := ⟨_, rfl⟩
  have hdt : d.took n = { d with O := d.O.drop n.toNat, more := M } := by
    unfold LD.took
    rw [hM]
    congr 1
    have : d.rest n = d.more.size := by unfold LD.rest; omega
    rw [this]
    exact bytes_ext (by rw [data_extract, List.drop_of_length_le (by rw [bsize]; omega)]; simp)
  have hMz : (d.took n).more.size ≤ 9223372036854775807 := by
    show (d.more.extract (d.rest n) d.more.size).size ≤ _
    rw [ByteArray.size_extract]
    omega
  have hrz : y.size + r.size ≤ 9223372036854775807 := by
    have h1 := HYZ.out
    have h2 : r.size ≤ d.more.size := by rw [hr]; exact Nat.le_refl _
    omega
  rw [← hr, ← hM]
  rw [← hr] at HX
  have hb' : w.heap.size ≠ b := by omega
  have HDT := Lib.hid hdt
  clear hr hM hdt
  refine (fill_any (d := d.took n) (by rw [HDT.out]; exact IsL.take_end H3.out _ _ hpa _ _) hMz).mono ?_
  rintro e w5 ⟨rfl, h5, t5⟩
  have P5 := (Blk.take_end P3.out hb' _ _).touch t5 (fun hb => by have := hlt.out _ hb; omega)
  have g0' : w5.cell? ⟨w.heap.size, 0, none⟩ = some (.string y) := P5.cell 0
  have g1' : w5.cell? ⟨w.heap.size, 1, none⟩ = some (.string r) := P5.cell 1
  have hadd := fun (W : World) => run_string_add_sum (P := Try.prog) (w := W) y r hrz
  have T5 := Lib.hid t5
  have H5 := Lib.hid h5
  clear t5 h5 P5
  go_wp2_with fail
  go_ret
  refine ⟨ret_string HX.out.symm, H5.out, ?_⟩
  exact (((S3.out.drewN _).setNew (Nat.le_refl _) _).setCell (d.of_b b) _).trans T5.out
set_option maxHeartbeats 1000000 in
theorem ltake_dry {w : World} {b : Nat} {d : LD} (h : IsL w b d) (n : Int) (hn : n ≤ 9223372036854775807) (hn0 : -9223372036854775808 ≤ n) (hs : d.more.size ≤ 4611686018427387903) (hc : d.O.length + d.more.size < n) (hc2 : d.more.size ≤ 0) (x y : ByteArray) (hy : y = ⟨(d.O.take n.toNat).toArray⟩) (hx : x = y ++ ByteArray.empty) :
    Calls Try.prog 108 #[.pointer (some ⟨b, 0, none⟩), .int .i64 n] w fun e w' => e = .returned (.string x) ∧ IsL w' b (d.took n).fill ∧ Touch (d.blocks b) w w' := by
  have hle := h.outq.le
  have hm := h.qm
  have hlt := Lib.hid h.lt
  have hbl : b < w.heap.size := hlt.out b (.inl rfl)
  have c0 : w.cell? ⟨b, 0, none⟩ = some (.pointer (some ⟨d.bi, 0, none⟩)) := h.head.cell 0
  have c1 : w.cell? ⟨b, 1, none⟩ = some (.pointer (some ⟨d.bo, 0, none⟩)) := h.head.cell 1
  have hyz : y.size = min n.toNat d.O.length := by rw [hy]; show (d.O.take n.toNat).toArray.size = _; rw [List.size_toArray, List.length_take]
  have hym1 : y.size ≤ d.O.length := by omega
  have hym2 : d.O.length ≤ y.size := by omega
  have HY := Lib.hid hy
  have HX := Lib.hid hx
  have H := Lib.hid h
  have HYZ := Lib.hid hyz
  clear hy h hx hyz
  go_enter Try.func108, Try.ntmps108
  go_wp2_with fail
  refine (made_yes H.out).mono ?_
  rintro e w' ⟨rfl, rfl⟩
  go_wp2_with fail
  have h1 : IsL (w.alloc (.cells #[.string ⟨#[]⟩, .string ⟨#[]⟩] 163)) b d := H.out.keepB ((Below.refl _ _).alloc (Nat.le_refl _) _)
  refine (take_at h1.outq n hn y _ HY.out rfl).mono ?_
  rintro e w2 ⟨rfl, q2, t2⟩
  have h2 := h1.out q2 t2
  have p2 : Blk w2 w.heap.size #[.string ⟨#[]⟩, .string ⟨#[]⟩] 163 := (Blk.new _ _ _).touch t2 (by have := hlt.out d.bo (.inr (.inr (.inr (.inl rfl)))); have := hlt.out d.go (.inr (.inr (.inr (.inr rfl)))); omega)
  have s2 : Touch (d.blocks b) w w2 := ((Touch.refl _ w).alloc _).trans (t2.mono fun i _ h => d.of_out b i h)
  have p3 : Blk (w2.setCell ⟨w.heap.size, 0, none⟩ (.string y)) w.heap.size #[.string y, .string ⟨#[]⟩] 163 := p2.set 0 _
  have t3 : Touch (fun k => k = w.heap.size) w2 (w2.setCell ⟨w.heap.size, 0, none⟩ (.string y)) := Touch.setCell (P := fun k => k = w.heap.size) (Touch.refl _ _) rfl _
  have h3 := h2.far t3 (fun i hi e => by have := hlt.out i hi; omega)
  have s3 : Touch (d.blocks b) w (w2.setCell ⟨w.heap.size, 0, none⟩ (.string y)) := ⟨s2.os, s2.tape, s2.output, by simpa using s2.size, fun k hk hp => (t3.block k (by have := s2.size; omega) (by omega)).trans (s2.block k hk hp)⟩
  obtain ⟨w3, hw3⟩ : ∃ z, z = w2.setCell ⟨w.heap.size, 0, none⟩ (.string y) := ⟨_, rfl⟩
  rw [← hw3] at p3 h3 s3
  have g0 : w2.cell? ⟨w.heap.size, 0, none⟩ = some (.string ⟨#[]⟩) := p2.cell 0
  have gz : w2.frozen? ⟨w.heap.size, 0, none⟩ = false := p2.froz 0
  have hw3' := Lib.hid hw3
  clear q2 t2 t3 s2 hw3
  go_upto_region 5 with fail
  clear g0 gz p2 h2 h1
  rw [← hw3'.out]
  clear hw3'
  have k1 : w3.cell? ⟨b, 1, none⟩ = some (.pointer (some ⟨d.bo, 0, none⟩)) := h3.head.cell 1
  have k2 : w3.cell? ⟨b, 2, none⟩ = some (.string d.more) := h3.head.cell 2
  have kz2 : w3.frozen? ⟨b, 2, none⟩ = false := h3.head.froz 2
  have g0 : w3.cell? ⟨w.heap.size, 0, none⟩ = some (.string y) := p3.cell 0
  have g1 : w3.cell? ⟨w.heap.size, 1, none⟩ = some (.string ⟨#[]⟩) := p3.cell 1
  have gz1 : w3.frozen? ⟨w.heap.size, 1, none⟩ = false := p3.froz 1
  have H3 := Lib.hid h3
  have S3 := Lib.hid s3
  have P3 := Lib.hid p3
  clear h3 s3 p3
  go_quiet (fail)
  go_wp2_with fail
  go_region
  go_wp2_with fail
  have hpa : ∀ i, LD.blocks { d with O := d.O.drop n.toNat } b i → i ≠ w.heap.size := fun i hi e => by have := hlt.out i hi; omega
  obtain ⟨r, hr⟩ : ∃ r : ByteArray, r = ByteArray.empty := ⟨_, rfl⟩
  obtain ⟨M, hM⟩ : ∃ M : ByteArray, M = d.more := ⟨_, rfl⟩
  have hdt : d.took n = { d with O := d.O.drop n.toNat, more := M } := by
    unfold LD.took
    rw [hM]
    congr 1
    have : d.rest n = 0 := by unfold LD.rest; omega
    rw [this]
    exact bytes_ext (by rw [data_extract, List.drop_zero, List.take_of_length_le (by rw [bsize]; omega)])
  have hMz : (d.took n).more.size ≤ 9223372036854775807 := by
    show (d.more.extract (d.rest n) d.more.size).size ≤ _
    rw [ByteArray.size_extract]
    omega
  have hrz : y.size + r.size ≤ 9223372036854775807 := by
    have h1 := HYZ.out
    have h2 : r.size ≤ d.more.size := by rw [hr]; exact Nat.zero_le _
    omega
  rw [← hr, ← hM]
  rw [← hr] at HX
  have hb' : w.heap.size ≠ b := by omega
  have HDT := Lib.hid hdt
  clear hr hM hdt
  refine (fill_any (d := d.took n) (by rw [HDT.out]; exact IsL.take_end H3.out _ _ hpa _ _) hMz).mono ?_
  rintro e w5 ⟨rfl, h5, t5⟩
  have P5 := (Blk.take_end P3.out hb' _ _).touch t5 (fun hb => by have := hlt.out _ hb; omega)
  have g0' : w5.cell? ⟨w.heap.size, 0, none⟩ = some (.string y) := P5.cell 0
  have g1' : w5.cell? ⟨w.heap.size, 1, none⟩ = some (.string r) := P5.cell 1
  have hadd := fun (W : World) => run_string_add_sum (P := Try.prog) (w := W) y r hrz
  have T5 := Lib.hid t5
  have H5 := Lib.hid h5
  clear t5 h5 P5
  go_wp2_with fail
  go_ret
  refine ⟨ret_string HX.out.symm, H5.out, ?_⟩
  exact (((S3.out.drewN _).setNew (Nat.le_refl _) _).setCell (d.of_b b) _).trans T5.out
/-- TAKE: the first that wait, and the queue filled again. -/
theorem ltake_any {w : World} {b : Nat} {d : LD} (h : IsL w b d) (n : Int) (hn : n ≤ 9223372036854775807) (hn0 : -9223372036854775808 ≤ n) (hs : d.more.size ≤ 4611686018427387903) (x : ByteArray) (hx : x.data.toList = (d.O ++ d.more.data.toList).take n.toNat) :
    Calls Try.prog 108 #[.pointer (some ⟨b, 0, none⟩), .int .i64 n] w fun e w' => e = .returned (.string x) ∧ IsL w' b (d.took n).fill ∧ Touch (d.blocks b) w w' := by
  have hb := bsize d.more
  have hys : (⟨(d.O.take n.toNat).toArray⟩ : ByteArray).size = min n.toNat d.O.length := by show (d.O.take n.toNat).toArray.size = _; rw [List.size_toArray, List.length_take]
  have he : ByteArray.empty.data.toList = [] := by simp
  by_cases h0 : n ≤ 0
  · refine ltake_neg h n hn hn0 hs h0 x _ rfl (bytes_ext ?_)
    rw [hx, data_append, show n.toNat = 0 from by omega]
    simp
  by_cases h1 : n ≤ d.O.length
  · refine ltake_in h n hn hn0 hs (by omega) h1 x _ rfl (bytes_ext ?_)
    rw [hx, data_append, he, List.append_nil, List.take_append_of_le_length (by omega)]
  by_cases h2 : n ≤ d.O.length + d.more.size
  · refine ltake_mid h n hn hn0 hs (by omega) h2 x _ rfl (bytes_ext ?_)
    rw [hx, data_append, data_extract, List.drop_zero, Nat.sub_zero, List.take_append, hys, show n.toNat - min n.toNat d.O.length = n.toNat - d.O.length from by omega]
  by_cases h3 : 0 < d.more.size
  · refine ltake_far h n hn hn0 hs (by omega) h3 x _ rfl (bytes_ext ?_)
    rw [hx, data_append, List.take_append, List.take_of_length_le (l := d.more.data.toList) (by omega)]
  · refine ltake_dry h n hn hn0 hs (by omega) (by omega) x _ rfl (bytes_ext ?_)
    rw [hx, data_append, he, List.take_append, List.eq_nil_of_length_eq_zero (l := d.more.data.toList) (by omega)]
    simp
end Go.Proofs.Ytekbmefdaepgcaa

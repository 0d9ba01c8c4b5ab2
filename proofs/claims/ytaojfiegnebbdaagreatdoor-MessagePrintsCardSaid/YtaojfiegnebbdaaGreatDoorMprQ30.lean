/- Texts packed for one claim, 30 of 50: EncBodyW EncRef. -/
import Derived.Test.YtaojfiegnebbdaaGreatDoorMprQ29
import Derived.RangeFuncNested
import Derived.RangeFuncBound
import Derived.RangeFuncCalls
import Derived.Shelf.RegionOpen
set_option maxRecDepth 100000
set_option maxHeartbeats 16000000
set_option linter.unusedSimpArgs false
set_option linter.unusedVariables false
-- EncBodyW
namespace Go.Proofs.YtaojfiegnebbdaaGreatDoor
open Go.RowKit Go.Shelf
attribute [local go_sem] Oper.semAt_some
theorem KeepsO {P : Nat → Prop} {w w' : World} (t : Touch P w w') (hP : ∀ i, i < w.heap.size → P i → ∃ cs ty fz, w.heap[i]? = some (.cells cs ty fz)) : KeepsOthers w w' :=
 ⟨t.size, fun k o hk ho => by
  have hlt : k < w.heap.size := (Array.getElem?_eq_some_iff.1 hk).1
  by_cases hp : P k
  ·obtain ⟨cs, ty, fz, h⟩ := hP k hlt hp
   rw [hk] at h
   injection h with h
   subst h
   cases ho
  ·exact (t.block k hlt hp).trans hk⟩
theorem bld_own {B b : Nat} {p v : Value} {T : List UInt8} {W W' : World} {row : Option Nat} (h : Own.Bld W B b p v T) (hg : W.grownBy W' row) (hr : ∀ r, row = some r → ∃ o : Obj, W.heap[r]? = some o ∧ o.isCells = false) : Own.Bld W' B b p v T := by
 have ne : ∀ k cs ty fz, W.heap[k]? = some (.cells cs ty fz) → some k ≠ row := fun k cs ty fz hk e => by
  obtain ⟨o, ho, hc⟩ := hr k e.symm
  rw [hk] at ho
  injection ho with ho
  subst ho
  cases hc
 have hb := h.blk
 refine ⟨h.addr, ?_, ?_, h.nil⟩
 ·exact (hg.block b h.blk.lt (ne b _ _ _ hb)).trans hb
 ·obtain ⟨h1, h2⟩ := h.own
  refine ⟨h1, ?_⟩
  rcases h2 with h2 | ⟨g, cap, cur, fz, rfl, hbg, hgg, r⟩
  ·exact .inl h2
  ·refine .inr ⟨g, cap, cur, fz, rfl, hbg, ?_, r⟩
   have hlt : g < W.heap.size := (Array.getElem?_eq_some_iff.1 hgg).1
   exact (hg.block g hlt (ne g _ _ _ hgg)).trans hgg
theorem chunks_fold : ∀ (l : List ByteArray) (o : ByteArray), (∀ p ∈ l, p.size ≤ 1000000) → (l.foldl (fun o p => o ++ (beginB p.size ++ p ++ crlf)) o).size ≤ o.size + 1000100 * l.length
 | [], o, _ => nR _
 | p :: l, o, h => by
   have h1 := chunks_fold l (o ++ (beginB p.size ++ p ++ crlf)) (fun q hq => h q (by simp [hq]))
   have h2 := h p (by simp)
   have h3 := beginB_size (p.size : Int) (by omega)
   have h4 : crlf.size = 2 := rfl
   rw [ByteArray.size_append, ByteArray.size_append, ByteArray.size_append] at h1
   rw [List.foldl_cons, List.length_cons]
   omega
theorem chunksL_size (l : List ByteArray) (h : ∀ p ∈ l, p.size ≤ 1000000) : (chunksL l).size ≤ 1000100 * l.length := by
 have := chunks_fold l ⟨#[]⟩ h
 have h0 : (⟨#[]⟩ : ByteArray).size = 0 := rfl
 rw [h0] at this
 unfold chunksL
 omega
theorem body_neg {w : World} {Az At : Option Addr} {lz cz lt ct : Nat} {k n : Int} {z : List Int} {s : ByteArray} {l : List Fld} (hz : Ints w Az lz z) (ht : Fds w At lt l) (hs : s.size ≤ 1000000) (hlz : lz ≤ 1000) (hlt : lt ≤ 1000) (hls : ∀ g ∈ l, g.1.size ≤ 1000 ∧ g.2.size ≤ 1000) (h0 : n < 0) : Calls Tryz.prog 40 #[.agg #[.int .i64 k, .int .i64 n], .slice Az lz cz, .string s, .slice At lt ct] w fun o w' => o = .returned (.tuple #[.string (⟨#[]⟩), .int .i64 14]) ∧ Below w.heap.size w w' := by
 clear hz ht hs hlz hlt hls
 go_enter Tryz.func40, Tryz.ntmps40
 go_wp2_with fail
 go_ret2
 exact ⟨rfl, (Below.refl _ _).alloc (nR _) _⟩
theorem body_plain_no {w : World} {Az At : Option Addr} {lz cz lt ct : Nat} {k n : Int} {z : List Int} {s : ByteArray} {l : List Fld} (hz : Ints w Az lz z) (ht : Fds w At lt l) (hs : s.size ≤ 1000000) (hlz : lz ≤ 1000) (hlt : lt ≤ 1000) (hls : ∀ g ∈ l, g.1.size ≤ 1000 ∧ g.2.size ≤ 1000) (h0 : 0 ≤ n) (hk : k ≠ 2) (h1 : (fitsB k n s && decide (lz + lt = 0)) = false) : Calls Tryz.prog 40 #[.agg #[.int .i64 k, .int .i64 n], .slice Az lz cz, .string s, .slice At lt ct] w fun o w' => o = .returned (.tuple #[.string (⟨#[]⟩), .int .i64 14]) ∧ Below w.heap.size w w' := by
 have n2 : (k == 2) = false := by rw [beq_eq_false_iff_ne]; exact hk
 have n3 : (k != 2) = true := by rw [bne_iff_ne]; exact hk
 have n4 : decide (n < 0) = false := by rw [decide_eq_false_iff_not]; omega
 obtain ⟨p, hp⟩ : ∃ p, fitsB k n s = p := ⟨_, rfl⟩
 have HC := lH (fun W => fits_any k n s hp W)
 have HB : Hid (Below w.heap.size w (w.alloc (.cells #[.int .i64 k, .int .i64 n] 37))) := (Below.refl _ _).alloc (nR _) _
 rw [hp] at h1
 clear hz ht hs hls hp hk
 cases p
 ·
  go_enter Tryz.func40, Tryz.ntmps40
  go_wp2_with fail
  refine (HC.out _).mono ?_
  rintro e' w1 ⟨rfl, hb⟩
  have HB1 := lH (HB.out.trans (hb.mono HB.out.size))
  clear hb
  go_wp2_with fail
  go_ret2
  exact ⟨rfl, HB1.out⟩
 ·have hx : 0 < lz + lt := by
   simp only [Bool.true_and, decide_eq_false_iff_not] at h1
   omega
  have hx2 : (0 : Int) < (lz : Int) + lt := by omega
  clear h1
  go_enter Tryz.func40, Tryz.ntmps40
  go_wp2_with fail
  refine (HC.out _).mono ?_
  rintro e' w1 ⟨rfl, hb⟩
  have HB1 := lH (HB.out.trans (hb.mono HB.out.size))
  clear hb
  go_wp2_with fail
  go_ret2
  exact ⟨rfl, HB1.out⟩
theorem body_plain_ok {w : World} {Az At : Option Addr} {lz cz lt ct : Nat} {k n : Int} {z : List Int} {s : ByteArray} {l : List Fld} (hz : Ints w Az lz z) (ht : Fds w At lt l) (hs : s.size ≤ 1000000) (hlz : lz ≤ 1000) (hlt : lt ≤ 1000) (hls : ∀ g ∈ l, g.1.size ≤ 1000 ∧ g.2.size ≤ 1000) (h0 : 0 ≤ n) (hk : k ≠ 2) (h1 : (fitsB k n s && decide (lz + lt = 0)) = true) : Calls Tryz.prog 40 #[.agg #[.int .i64 k, .int .i64 n], .slice Az lz cz, .string s, .slice At lt ct] w fun o w' => o = .returned (.tuple #[.string (s), .int .i64 0]) ∧ Below w.heap.size w w' := by
 have n2 : (k == 2) = false := by rw [beq_eq_false_iff_ne]; exact hk
 have n3 : (k != 2) = true := by rw [bne_iff_ne]; exact hk
 have n4 : decide (n < 0) = false := by rw [decide_eq_false_iff_not]; omega
 obtain ⟨p, hp⟩ : ∃ p, fitsB k n s = p := ⟨_, rfl⟩
 have HC := lH (fun W => fits_any k n s hp W)
 have HB : Hid (Below w.heap.size w (w.alloc (.cells #[.int .i64 k, .int .i64 n] 37))) := (Below.refl _ _).alloc (nR _) _
 rw [hp] at h1
 clear hz ht hs hls hp hk
 cases p
 ·cases h1
 ·have hx : lz = 0 ∧ lt = 0 := by
   simp only [Bool.true_and, decide_eq_true_eq] at h1
   omega
  obtain ⟨rfl, rfl⟩ := hx
  clear h1
  go_enter Tryz.func40, Tryz.ntmps40
  go_wp2_with fail
  refine (HC.out _).mono ?_
  rintro e' w1 ⟨rfl, hb⟩
  have HB1 := lH (HB.out.trans (hb.mono HB.out.size))
  clear hb
  go_wp2_with fail
  go_ret2
  exact ⟨rfl, HB1.out⟩
theorem body_cut {w : World} {Az At : Option Addr} {lz cz lt ct : Nat} {k n : Int} {z : List Int} {s : ByteArray} {l : List Fld} (hz : Ints w Az lz z) (ht : Fds w At lt l) (hs : s.size ≤ 1000000) (hlz : lz ≤ 1000) (hlt : lt ≤ 1000) (hls : ∀ g ∈ l, g.1.size ≤ 1000 ∧ g.2.size ≤ 1000) (h0 : 0 ≤ n) (h1 : cutF z s.size ≠ some 0) (hk : k = 2) : Calls Tryz.prog 40 #[.agg #[.int .i64 k, .int .i64 n], .slice Az lz cz, .string s, .slice At lt ct] w fun o w' => o = .returned (.tuple #[.string (⟨#[]⟩), .int .i64 14]) ∧ Below w.heap.size w w' := by
 subst hk
 have n4 : decide (n < 0) = false := by rw [decide_eq_false_iff_not]; omega
 have HB : Hid (Below w.heap.size w (w.alloc (.cells #[.int .i64 2, .int .i64 n] 37))) := (Below.refl _ _).alloc (nR _) _
 have HCT := lH (cuts_any s (by omega) (cap := cz) (hz.below HB.out) (by omega))
 clear hz ht hs hls
 cases hc : cutF z s.size with
 | none =>
   rw [hc] at HCT
   clear hc h1
   go_enter Tryz.func40, Tryz.ntmps40
   go_wp2_with fail
   refine HCT.out.mono ?_
   rintro e' w1 ⟨rfl, hw⟩
   have HB1 : Hid (Below w.heap.size w w1) := by show Below _ _ _; rw [hw]; exact ((HB.out.alloc HB.out.size _).alloc (by simp; omega) _)
   clear hw
   have hv : ∀ g, cutV g none = .tuple #[.nilFunc, .bool false] := fun _ => rfl
   rw [hv]
   go_wp2_with fail
   go_ret2
   exact ⟨rfl, HB1.out⟩
 | some y =>
   rw [hc] at HCT h1
   have hy : (y == 0) = false := by rw [beq_eq_false_iff_ne]; exact fun h => h1 (by rw [h])
   clear hc h1
   go_enter Tryz.func40, Tryz.ntmps40
   go_wp2_with fail
   refine HCT.out.mono ?_
   rintro e' w1 ⟨rfl, hw⟩
   have HB1 : Hid (Below w.heap.size w w1) := by show Below _ _ _; rw [hw]; exact ((HB.out.alloc HB.out.size _).alloc (by simp; omega) _)
   clear hw
   have hv : ∀ g, cutV g (some y) = .tuple #[.func (.func 111) #[] #[.pointer (some ⟨g, 0, none⟩), .pointer (some ⟨g + 1, 0, none⟩)], .bool (y == 0)] := fun _ => rfl
   rw [hv, hy]
   go_wp2_with fail
   go_ret2
   exact ⟨rfl, HB1.out⟩
theorem body_bad {w : World} {Az At : Option Addr} {lz cz lt ct : Nat} {k n : Int} {z : List Int} {s : ByteArray} {l : List Fld} (hz : Ints w Az lz z) (ht : Fds w At lt l) (hs : s.size ≤ 1000000) (hlz : lz ≤ 1000) (hlt : lt ≤ 1000) (hls : ∀ g ∈ l, g.1.size ≤ 1000 ∧ g.2.size ≤ 1000) (h0 : 0 ≤ n) (h1 : cutF z s.size = some 0) (hk : k = 2) (h2 : badF l = true) : Calls Tryz.prog 40 #[.agg #[.int .i64 k, .int .i64 n], .slice Az lz cz, .string s, .slice At lt ct] w fun o w' => o = .returned (.tuple #[.string (⟨#[]⟩), .int .i64 7]) ∧ Below w.heap.size w w' := by
 subst hk
 have n4 : decide (n < 0) = false := by rw [decide_eq_false_iff_not]; omega
 have HB : Hid (Below w.heap.size w (w.alloc (.cells #[.int .i64 2, .int .i64 n] 37))) := (Below.refl _ _).alloc (nR _) _
 have HCT := lH (cuts_any s (by omega) (cap := cz) (hz.below HB.out) (by omega))
 rw [h1] at HCT
 have HT := lH ht
 have HS := lH hls
 have H2 := lH h2
 clear hz ht hs hls h1 h2
 go_enter Tryz.func40, Tryz.ntmps40
 go_wp2_with fail
 refine HCT.out.mono ?_
 rintro e' w1 ⟨rfl, hw⟩
 have HB1 : Hid (Below w.heap.size w w1) := by show Below _ _ _; rw [hw]; exact ((HB.out.alloc HB.out.size _).alloc (by simp; omega) _)
 clear hw
 have hv : ∀ g, cutV g (some 0) = .tuple #[.func (.func 111) #[] #[.pointer (some ⟨g, 0, none⟩), .pointer (some ⟨g + 1, 0, none⟩)], .bool true] := fun _ => rfl
 rw [hv]
 go_wp2_with fail
 refine (contains_field (cap := ct) (HT.out.below HB1.out) hlt HS.out H2.out).mono ?_
 rintro e' w2 ⟨rfl, hb⟩
 have HB2 := lH (HB1.out.trans (hb.mono HB1.out.size))
 clear hb
 go_wp2_with fail
 go_ret2
 exact ⟨rfl, HB2.out⟩
theorem body_in (F : Fence) (N : Nat) (hw : ∀ f args (W : World) R M, Calls Tryz.prog f args W R → CallsIn F M Tryz.prog f args W R) (hfn : ∀ f, F.fn f) (hro : F.round = none) (hN : 3 ≤ N) {w : World} {Az At : Option Addr} {lz cz lt ct : Nat} {k n : Int} {z : List Int} {s : ByteArray} {l : List Fld} (hz : Ints w Az lz z) (ht : Fds w At lt l) (hs : s.size ≤ 1000000) (hlz : lz ≤ 1000) (hlt : lt ≤ 1000) (hls : ∀ g ∈ l, g.1.size ≤ 1000 ∧ g.2.size ≤ 1000) (h0 : 0 ≤ n) (h1 : cutF z s.size = some 0) (h2 : badF l = false) :
 CallsIn F N Tryz.prog 40 #[.agg #[.int .i64 2, .int .i64 n], .slice Az lz cz, .string s, .slice At lt ct] w fun o w' => o = .returned (.tuple #[.string (chunksL (cutP s z lz) ++ lastB l), .int .i64 0]) ∧ Below w.heap.size w w' := by
 have n4 : decide (n < 0) = false := by rw [decide_eq_false_iff_not]; omega
 have HB : Hid (Below w.heap.size w (w.alloc (.cells #[.int .i64 2, .int .i64 n] 37))) := (Below.refl _ _).alloc (nR _) _
 have HCT := lH (cuts_any s (by omega) (cap := cz) (hz.below HB.out) (by omega))
 have HCO := lH (cutF_off h1)
 rw [h1] at HCT
 have HZ := lH hz
 have HT := lH ht
 have HLS := lH hls
 have H2 := lH h2
 have HSZ := lH hs
 have HW := lH hw
 have HFN := lH hfn
 have hv : ∀ g, cutV g (some 0) = .tuple #[.func (.func 111) #[] #[.pointer (some ⟨g, 0, none⟩), .pointer (some ⟨g + 1, 0, none⟩)], .bool true] := fun _ => rfl
 clear hz ht hs hls h1 h2 hw hfn
 have h1 : 1 ≤ N := by omega
 refine callsIn_of_wp_marks Tryz.func40 rfl (HFN.out _) ?_ hro
 simp only [Tryz.ntmps40, List.size_toArray, List.length_cons, List.length_nil, Nat.reduceAdd, Nat.reduceSub, Array.replicate_succ, Array.replicate_zero, List.push_toArray, List.append_toArray, List.nil_append, List.cons_append]
 gi_wp2_with fail
 refine ⟨HFN.out _, ?_⟩
 refine (HW.out _ _ _ _ _ HCT.out).mono ?_
 rintro e' w1 ⟨rfl, hw⟩
 have HB1 : Hid (Below w.heap.size w w1) := by show Below _ _ _; rw [hw]; exact ((HB.out.alloc HB.out.size _).alloc (by simp; omega) _)
 have K1 : Hid (Blk w1 (w.heap.size + 1) #[.string s] 9) := by show Blk _ _ _ _; rw [hw]; exact (Blk.new' (by simp)).alloc _
 have K2 : Hid (Blk w1 (w.heap.size + 2) #[.slice Az lz cz] 44) := by show Blk _ _ _ _; rw [hw]; exact Blk.new' (by simp)
 clear hw
 rw [hv]
 gi_wp2_with fail
 refine ⟨HFN.out _, ?_⟩
 refine (HW.out _ _ _ _ _ (contains_field (cap := ct) (HT.out.below HB1.out) hlt HLS.out H2.out)).mono ?_
 rintro e' w2 ⟨rfl, hb⟩
 have HB2 := lH (HB1.out.trans (hb.mono HB1.out.size))
 have K3 := lH (K1.out.call hb)
 have K4 := lH (K2.out.call hb)
 clear hb
 gi_wp2_with fail
 have HI0 := lH (HZ.out.below (HB2.out.alloc HB2.out.size (.cells #[.pointer none, .slice none 0 0] 115)))
 have K5 := lH (K3.out.alloc (.cells #[.pointer none, .slice none 0 0] 115))
 have K6 := lH (K4.out.alloc (.cells #[.pointer none, .slice none 0 0] 115))
 have HZ2 : Hid (z.length = lz) := HZ.out.1
 obtain ⟨n₀, hn₀⟩ : ∃ n₀, n₀ = w2.heap.size := ⟨_, rfl⟩
 refine wpIn_rangeFunc_ownF hro h1 (gf := 111) (lb := #[.pointer (some ⟨w.heap.size + 1, 0, none⟩), .pointer (some ⟨w.heap.size + 1 + 1, 0, none⟩)]) rfl (HFN.out _) (enters_of Tryz.func111 (by kernel_rfl) rfl)
  (cuts_stops F (N - 1) (HFN.out _) hro (by omega) w2.heap.size (w.heap.size + 1) s HSZ.out Az lz cz z (by omega) HCO.out.1 (by have := HCO.out.2.1; rw [HZ2.out] at this; omega) (w2.alloc (.cells #[.pointer none, .slice none 0 0] 115)) K6.out.lt (by simp) HI0.out
   (fun h0 b off e => by obtain ⟨b', off', e', hlt, _⟩ := HZ.out.2 h0; rw [e] at e'; cases e'; exact Nat.lt_of_lt_of_le hlt HB2.out.size) (K5.out.cell 0) (K6.out.cell 0))
  belowK_t (belowK_b (by simp)) (Below.refl _ _) (fun _ => rfl)
  (fun pre W => (∃ p v, Own.Bld W (w2.heap.size + 1) w2.heap.size p v (chunksL (pre.map (fun q : CutPc => q.1))).data.toList) ∧ Below w2.heap.size w2 W)
  (fun _ _ _ => False)
  (OwnFrom.and (Own.from (fun s A B row hs hg hr => by obtain ⟨p, v, h⟩ := hs; exact ⟨p, v, bld_own h hg hr⟩) _) (ownFrom_below (nR _) (by simp)))
  (fun _ _ _ _ _ h _ _ => h)
  ⟨⟨.pointer none, .slice none 0 0, ⟨.inl rfl, Blk.new _ _ _, ⟨rfl, .inl ⟨rfl, rfl⟩⟩, fun _ => rfl⟩⟩, (Below.refl _ _).alloc (nR _) _⟩
  (fun x => { tmps := #[.agg #[.int .i64 2, .int .i64 n], .slice Az lz cz, .string s, .slice At lt ct, .pointer (some ⟨w.heap.size, 0, none⟩), undef, undef, undef, .string ⟨#[]⟩, .int .i64 0, .func (.func 111) #[] #[.pointer (some ⟨w.heap.size + 1, 0, none⟩), .pointer (some ⟨w.heap.size + 1 + 1, 0, none⟩)], .bool true, .pointer (some ⟨w2.heap.size, 0, none⟩), .string x.1, .pointer (some ⟨w.heap.size, 1, none⟩), .int .i64 n, .bool false, .pointer (some ⟨w.heap.size, 0, none⟩), .int .i64 2, .bool false, undef, undef, undef, undef, undef, undef, undef, undef, undef, undef, undef, undef, undef, .tuple #[.func (.func 111) #[] #[.pointer (some ⟨w.heap.size + 1, 0, none⟩), .pointer (some ⟨w.heap.size + 1 + 1, 0, none⟩)], .bool true], .string s, .slice Az lz cz, .tuple #[.func (.func 111) #[] #[.pointer (some ⟨w.heap.size + 1, 0, none⟩), .pointer (some ⟨w.heap.size + 1 + 1, 0, none⟩)], .bool true], .func (.func 111) #[] #[.pointer (some ⟨w.heap.size + 1, 0, none⟩), .pointer (some ⟨w.heap.size + 1 + 1, 0, none⟩)], .bool true, .bool true, .bool false, .slice At lt ct, .bool false, .func (.func 111) #[] #[.pointer (some ⟨w.heap.size + 1, 0, none⟩), .pointer (some ⟨w.heap.size + 1 + 1, 0, none⟩)], .string x.1, undef, undef, undef, undef, undef, undef, undef, undef, undef, undef, undef], defers := [] }) ?assign ?body ?done ?stop
 case assign =>
  intro y x W K hK
  gi_wp2
  exact hK
 case body =>
  rintro y pre ⟨x, hx⟩ W ⟨⟨p, v, hb⟩, hbel⟩ hlen
  dsimp only
  have HBd := lH hb
  have HBl := lH hbel
  obtain ⟨G, hG⟩ : ∃ G, G = beginB x.size := ⟨_, rfl⟩
  have hGs : G.size ≤ 66 := by rw [hG]; exact beginB_size _ (by omega)
  have HG : Hid (∀ W : World, Calls Tryz.prog 74 #[.int .i64 x.size] W fun e w' => e = .returned (.string G) ∧ Below W.heap.size W w') := fun W => by rw [hG]; exact begin_any _ (by omega) (by omega) W
  obtain ⟨A1, hA1⟩ : ∃ A, A = G ++ x := ⟨_, rfl⟩
  have hA1s : A1.size = G.size + x.size := by rw [hA1, ByteArray.size_append]
  have a1 : ∀ W : World, (Op.stringOp .add G x).run Tryz.prog W = .ok (.string A1) W := fun W => (run_string_add_sum (P := Tryz.prog) (w := W) G x (by omega)).trans (by rw [← hA1])
  obtain ⟨A2, hA2⟩ : ∃ A, A = A1 ++ ⟨#[13, 10]⟩ := ⟨_, rfl⟩
  have hA2s : A2.size = A1.size + 2 := by rw [hA2, ByteArray.size_append]; rfl
  have a2 : ∀ W : World, (Op.stringOp .add A1 ⟨#[13, 10]⟩).run Tryz.prog W = .ok (.string A2) W := fun W => (run_string_add_sum (P := Tryz.prog) (w := W) A1 ⟨#[13, 10]⟩ (by show A1.size + 2 ≤ _; omega)).trans (by rw [← hA2])
  have HN : Hid ((chunksL (pre.map (fun q : CutPc => q.1))).data.toList ++ A2.data.toList = (chunksL ((pre ++ [(⟨x, hx⟩ : CutPc)]).map (fun q : CutPc => q.1))).data.toList) := by
   show _ = _
   rw [List.map_append]
   show _ = (chunksL (pre.map (fun q : CutPc => q.1) ++ [x])).data.toList
   rw [chunksL_snoc, hA2, hA1, hG]
   simp [crlf]
  have hcs := chunksL_size (pre.map (fun q : CutPc => q.1)) (fun q hq => by obtain ⟨u, _, rfl⟩ := List.mem_map.1 hq; exact u.2)
  rw [List.length_map] at hcs
  have HCL : Hid ((chunksL (pre.map (fun q : CutPc => q.1))).data.toList.length + A2.size ≤ 140737488355328) := by
   show _ ≤ _
   have : (chunksL (pre.map (fun q : CutPc => q.1))).data.toList.length = (chunksL (pre.map (fun q : CutPc => q.1))).size := by simp
   omega
  clear hb hbel hG hGs hA1 hA1s hA2 hA2s hcs
  gi_wp2_with fail
  refine ⟨HFN.out _, fun _ => by omega, ?_⟩
  refine (CallsIn.inRound y (HW.out _ _ _ _ _ (HG.out _))).mono ?_
  rintro e' W1 ⟨rfl, hb1⟩
  have hbd1 := HBd.out.touch (Touch.of_below (P := fun _ => False) hb1) id (fun _ _ => id)
  have HK1 := lH (KeepsO (Touch.of_below (P := fun _ => False) hb1) (fun _ _ h => h.elim))
  have HBW1 : Hid (Below w2.heap.size W W1) := hb1.mono HBl.out.size
  have HL1 := lH (HBl.out.trans HBW1.out)
  have HBD1 := lH hbd1
  clear hb1 hbd1
  gi_wp2_with fail
  refine ⟨HFN.out _, fun _ => by omega, ?_⟩
  refine (CallsIn.inRound y (HW.out _ _ _ _ _ (Own.writeString_any HBD1.out (Nat.lt_succ_self _) HBD1.out.blk.lt A2 HCL.out))).mono ?_
  rintro e' W2 ⟨rfl, ⟨p', v', hb2⟩, ht2⟩
  rw [HN.out] at hb2
  have HB3 := lH hb2
  have HBW2 : Hid (Below w2.heap.size W1 W2) := ht2.below (fun k _ h => by rcases h with h | h; exact Nat.le_of_eq h.symm; exact nT (Nat.le_succ _) h.1) HL1.out.size
  have HK2 := lH (KeepsO ht2 (fun i _ h => by
   rcases h with rfl | h
   ·exact ⟨_, _, _, HBD1.out.blk⟩
   ·obtain ⟨_, cs, fz, h⟩ := h; exact ⟨_, _, _, h⟩))
  clear hb2 ht2
  gi_wp2_with fail
  exact ⟨HK1.out.trans HK2.out, HBW1.out.trans HBW2.out, ⟨_, _, HB3.out⟩, HL1.out.trans HBW2.out⟩
 case done =>
  rintro D ys W hD rfl ⟨⟨p, v, hb⟩, hbel⟩ hK
  have HBd := lH hb
  have HBl := lH hbel
  have HK := lH hK
  have HF := lH (HT.out.below (HB2.out.trans (hbel.mono HB2.out.size)))
  obtain ⟨L, hL⟩ : ∃ L, L = lastB l := ⟨_, rfl⟩
  have HLC := lH (last_any (cap := ct) HF.out hlt HLS.out)
  rw [← hL] at HLC
  have hLs : L.size ≤ 2004100 := by
   have h1 := lastA_size l HLS.out l.length (nR _)
   have h2 : l.length = lt := HT.out.1
   rw [List.take_length] at h1
   rw [hL]
   unfold lastB
   rw [ByteArray.size_append]
   show (lastA l).size + 2 ≤ _
   omega
  have hcs := chunksL_size ((cutQ s HSZ.out z lz).map (fun q : CutPc => q.1)) (fun q hq => by obtain ⟨u, _, rfl⟩ := List.mem_map.1 hq; exact u.2)
  rw [List.length_map, cutQ_length] at hcs
  have HCL : Hid ((chunksL ((cutQ s HSZ.out z lz).map (fun q : CutPc => q.1))).data.toList.length + L.size ≤ 140737488355328) := by
   show _ ≤ _
   have : (chunksL ((cutQ s HSZ.out z lz).map (fun q : CutPc => q.1))).data.toList.length = (chunksL ((cutQ s HSZ.out z lz).map (fun q : CutPc => q.1))).size := by simp
   omega
  obtain ⟨R, hR⟩ : ∃ R, R = chunksL (cutP s z lz) ++ L := ⟨_, rfl⟩
  have HR : Hid (R.data.toList = (chunksL ((cutQ s HSZ.out z lz).map (fun q : CutPc => q.1))).data.toList ++ L.data.toList) := by
   show _ = _
   rw [hR, cutQ_val]
   simp
  have hD2 : w2.heap.size + 1 ≤ D := by simpa using hD
  have HRR : Hid (R = chunksL (cutP s z lz) ++ lastB l) := by show R = _; rw [hR, hL]
  have HD2 := lH hD2
  clear hb hbel hK hL hLs hcs hR hD hD2
  gi_wp2_with fail
  refine ⟨HFN.out _, ?_⟩
  refine (HW.out _ _ _ _ _ HLC.out).mono ?_
  rintro e' W1 ⟨rfl, hb1⟩
  have hbd1 := HBd.out.touch (Touch.of_below (P := fun _ => False) hb1) id (fun _ _ => id)
  have HBD1 := lH hbd1
  have HL1 := lH (HBl.out.trans (hb1.mono HBl.out.size))
  have hDlt : D < W.heap.size := (Array.getElem?_eq_some_iff.1 HK.out).1
  have HKD1 : Hid (W1.heap[D]? = some (.deferred (some []))) := (hb1.block D hDlt).trans HK.out
  clear hb1 hbd1 hDlt
  gi_wp2_with fail
  refine ⟨HFN.out _, ?_⟩
  refine (HW.out _ _ _ _ _ (Own.writeString_any HBD1.out (Nat.lt_succ_self _) HBD1.out.blk.lt L HCL.out)).mono ?_
  rintro e' W2 ⟨rfl, ⟨p', v', hb2⟩, ht2⟩
  rw [← HR.out] at hb2
  have HB3 := lH hb2
  have HL2 := lH (HL1.out.trans (ht2.below (fun k _ h => by rcases h with h | h; exact Nat.le_of_eq h.symm; exact nT (Nat.le_succ _) h.1) HL1.out.size))
  have HKD2 : Hid (W2.heap[D]? = some (.deferred (some []))) := (KeepsO ht2 (fun i _ h => by
   rcases h with rfl | h
   ·exact ⟨_, _, _, HBD1.out.blk⟩
   ·obtain ⟨_, cs, fz, h⟩ := h; exact ⟨_, _, _, h⟩)).same D _ HKD1.out rfl
  clear hb2 ht2
  gi_wp2_with fail
  refine ⟨HFN.out _, ?_⟩
  refine (HW.out _ _ _ _ _ (Own.string_any HB3.out (Nat.lt_succ_self _) HB3.out.blk.lt R rfl)).mono ?_
  rintro e' W3 ⟨rfl, hb3, ht3⟩
  have HL3 := lH (HL2.out.trans (ht3.below (fun k _ h => nT (Nat.le_succ _) h.1) HL2.out.size))
  have HKD3 : Hid (W3.heap[D]? = some (.deferred (some []))) := (KeepsO ht3 (fun i _ h => by obtain ⟨_, cs, fz, h⟩ := h; exact ⟨_, _, _, h⟩)).same D _ HKD2.out rfl
  clear hb3 ht3
  gi_wp2_with fail
  refine ⟨by simp, .inl ⟨_, _, rfl, run_takeDeferred HKD3.out, ?_⟩⟩
  refine ⟨.tuple #[.string R, .int .i64 0], by simp [results, Tryz.results40, go_sem], ?_⟩
  have hB3 := HB2.out.trans (HL3.out.mono HB2.out.size)
  exact ⟨by rw [HRR.out], hB3.trans (belowK_b (w := w) (nR _) W3 D _ _ (by have := HB2.out.size; have := HD2.out; omega) HKD3.out rfl rfl)⟩
 case stop =>
  rintro D c pre W _ _ h _
  exact h.elim
theorem body_loop {w : World} {Az At : Option Addr} {lz cz lt ct : Nat} {k n : Int} {z : List Int} {s : ByteArray} {l : List Fld} (hz : Ints w Az lz z) (ht : Fds w At lt l) (hs : s.size ≤ 1000000) (hlz : lz ≤ 1000) (hlt : lt ≤ 1000) (hls : ∀ g ∈ l, g.1.size ≤ 1000 ∧ g.2.size ≤ 1000) (h0 : 0 ≤ n) (h1 : cutF z s.size = some 0) (hk : k = 2) (h2 : badF l = false) : Calls Tryz.prog 40 #[.agg #[.int .i64 k, .int .i64 n], .slice Az lz cz, .string s, .slice At lt ct] w fun o w' => o = .returned (.tuple #[.string (chunksL (cutP s z lz) ++ lastB l), .int .i64 0]) ∧ Below w.heap.size w w' := by
 subst hk
 exact callsIn_wide.1 (body_in Fence.wide 3 (fun _ _ _ _ _ h => callsIn_wide.2 h) (fun _ => trivial) rfl (by decide) (k := 2) hz ht hs hlz hlt hls h0 h1 h2)
theorem body_any {w : World} {Az At : Option Addr} {lz cz lt ct : Nat} {k n : Int} {z : List Int} {s : ByteArray} {l : List Fld} (hz : Ints w Az lz z) (ht : Fds w At lt l) (hs : s.size ≤ 1000000) (hlz : lz ≤ 1000) (hlt : lt ≤ 1000) (hls : ∀ g ∈ l, g.1.size ≤ 1000 ∧ g.2.size ≤ 1000) {R : ByteArray} {e : Int} (hr : bodyRes k n z s l = (R, e)) : Calls Tryz.prog 40 #[.agg #[.int .i64 k, .int .i64 n], .slice Az lz cz, .string s, .slice At lt ct] w fun o w' => o = .returned (.tuple #[.string (R), .int .i64 e]) ∧ Below w.heap.size w w' := by
 have e1 : z.length = lz := hz.1
 have e2 : l.length = lt := ht.1
 unfold bodyRes at hr
 by_cases h0 : n < 0
 ·rw [if_pos h0] at hr
  obtain ⟨rfl, rfl⟩ := Prod.mk.inj hr
  exact body_neg hz ht hs hlz hlt hls h0
 rw [if_neg h0] at hr
 by_cases hk : k = 2
 rotate_left
 ·rw [if_pos hk] at hr
  by_cases hf : fitsB k n s = true ∧ z.length = 0 ∧ l.length = 0
  ·rw [if_pos hf] at hr
   obtain ⟨rfl, rfl⟩ := Prod.mk.inj hr
   exact body_plain_ok hz ht hs hlz hlt hls (by omega) hk (by rw [hf.1, dT (by omega)]; rfl)
  ·rw [if_neg hf] at hr
   obtain ⟨rfl, rfl⟩ := Prod.mk.inj hr
   refine body_plain_no hz ht hs hlz hlt hls (by omega) hk ?_
   cases hff : fitsB k n s
   ·rfl
   ·rw [Bool.true_and, decide_eq_false_iff_not]
    exact fun h => hf ⟨hff, by omega, by omega⟩
 rw [if_neg (by omega)] at hr
 by_cases hc : cutF z s.size = some 0
 rotate_left
 ·rw [if_pos hc] at hr
  obtain ⟨rfl, rfl⟩ := Prod.mk.inj hr
  exact body_cut hz ht hs hlz hlt hls (by omega) hc hk
 rw [if_neg (by rw [hc]; simp)] at hr
 cases hb : badF l
 ·rw [hb, if_neg (by decide)] at hr
  obtain ⟨rfl, rfl⟩ := Prod.mk.inj hr
  rw [e1]
  exact body_loop hz ht hs hlz hlt hls (by omega) hc hk hb
 ·rw [hb, if_pos rfl] at hr
  obtain ⟨rfl, rfl⟩ := Prod.mk.inj hr
  exact body_bad hz ht hs hlz hlt hls (by omega) hc hk hb
end Go.Proofs.YtaojfiegnebbdaaGreatDoor
-- EncRef
namespace Go.Proofs.YtaojfiegnebbdaaGreatDoor
open Go.RowKit
theorem six_ways (k n : Int) (s : ByteArray) : k = 0 ∧ s.size = 0 ∨ k = 0 ∧ s.size ≠ 0 ∨ k = 1 ∧ n = s.size ∨ k = 1 ∧ n ≠ s.size ∨ k = 3 ∨ (k ≠ 0 ∧ k ≠ 1 ∧ k ≠ 3) := by
 by_cases h0 : k = 0
 ·by_cases h : s.size = 0
  ·exact .inl ⟨h0, h⟩
  ·exact .inr (.inl ⟨h0, h⟩)
 ·by_cases h1 : k = 1
  ·by_cases h : n = s.size
   ·exact .inr (.inr (.inl ⟨h1, h⟩))
   ·exact .inr (.inr (.inr (.inl ⟨h1, h⟩)))
  ·by_cases h3 : k = 3
   ·exact .inr (.inr (.inr (.inr (.inl h3))))
   ·exact .inr (.inr (.inr (.inr (.inr ⟨h0, h1, h3⟩))))
theorem rbody_neg {w : World} {Az At : Option Addr} {lz cz lt ct : Nat} {k n : Int} {z : List Int} {s : ByteArray} {l : List Fld} (hz : Ints w Az lz z) (ht : Fds w At lt l) (hs : s.size ≤ 1000000) (hlz : lz ≤ 1000) (hlt : lt ≤ 1000) (hls : ∀ g ∈ l, g.1.size ≤ 1000 ∧ g.2.size ≤ 1000) (h0 : n < 0) : Calls Tryz.prog 43 #[.agg #[.int .i64 k, .int .i64 n], .slice Az lz cz, .string s, .slice At lt ct] w fun o w' => o = .returned (.tuple #[.string (⟨#[]⟩), .int .i64 14]) ∧ Below w.heap.size w w' := by
 have hw := six_ways k n s
 clear hz ht hs hlz hlt hls
 rcases hw with ⟨rfl, h1⟩ | ⟨rfl, h1⟩ | ⟨rfl, rfl⟩ | ⟨rfl, h1⟩ | rfl | ⟨h1, h2, h3⟩
 ·
  have he : s.toList.isEmpty = true := by rw [empty_list2]; exact dT h1
  go_enter Tryz.func43, Tryz.ntmps43
  go_wp2_with fail
  go_ret2
  exact ⟨rfl, (Below.refl _ _).alloc (nR _) _⟩
 ·
  have he : s.toList.isEmpty = false := by rw [empty_list2]; exact dF h1
  go_enter Tryz.func43, Tryz.ntmps43
  go_wp2_with fail
  go_ret2
  exact ⟨rfl, (Below.refl _ _).alloc (nR _) _⟩
 ·
  exact absurd h0 (by omega)
 ·
  have he : (n == (s.size : Int)) = false := by rw [beq_eq_false_iff_ne]; exact h1
  go_enter Tryz.func43, Tryz.ntmps43
  go_wp2_with fail
  go_ret2
  exact ⟨rfl, (Below.refl _ _).alloc (nR _) _⟩
 ·
  go_enter Tryz.func43, Tryz.ntmps43
  go_wp2_with fail
  go_ret2
  exact ⟨rfl, (Below.refl _ _).alloc (nR _) _⟩
 ·
  have he1 : (k == 0) = false := by rw [beq_eq_false_iff_ne]; exact h1
  have he2 : (k == 1) = false := by rw [beq_eq_false_iff_ne]; exact h2
  have he3 : (k == 3) = false := by rw [beq_eq_false_iff_ne]; exact h3
  go_enter Tryz.func43, Tryz.ntmps43
  go_wp2_with fail
  go_ret2
  exact ⟨rfl, (Below.refl _ _).alloc (nR _) _⟩
theorem rbody_plain_no {w : World} {Az At : Option Addr} {lz cz lt ct : Nat} {k n : Int} {z : List Int} {s : ByteArray} {l : List Fld} (hz : Ints w Az lz z) (ht : Fds w At lt l) (hs : s.size ≤ 1000000) (hlz : lz ≤ 1000) (hlt : lt ≤ 1000) (hls : ∀ g ∈ l, g.1.size ≤ 1000 ∧ g.2.size ≤ 1000) (h0 : 0 ≤ n) (hk : k ≠ 2) (h9 : (fitsB k n s && decide (lz + lt = 0)) = false) : Calls Tryz.prog 43 #[.agg #[.int .i64 k, .int .i64 n], .slice Az lz cz, .string s, .slice At lt ct] w fun o w' => o = .returned (.tuple #[.string (⟨#[]⟩), .int .i64 14]) ∧ Below w.heap.size w w' := by
 have n2 : (k == 2) = false := by rw [beq_eq_false_iff_ne]; exact hk
 have n3 : (k != 2) = true := by rw [bne_iff_ne]; exact hk
 have n4 : decide (n < 0) = false := by rw [decide_eq_false_iff_not]; omega
 have hw := six_ways k n s
 clear hz ht hs hls hk
 rcases hw with ⟨rfl, h1⟩ | ⟨rfl, h1⟩ | ⟨rfl, rfl⟩ | ⟨rfl, h1⟩ | rfl | ⟨h1, h2, h3⟩
 ·
  have he : s.toList.isEmpty = true := by rw [empty_list2]; exact dT h1
  have hf : fitsB 0 n s = true := by unfold fitsB; simp [h1]
  rw [hf, Bool.true_and, decide_eq_false_iff_not] at h9
  have hx : 0 < lz ∨ (lz = 0 ∧ 0 < lt) := by omega
  clear h9 hf
  rcases hx with hx | ⟨rfl, hx⟩
  ·have hx2 : (0 : Int) < lz := by omega
   clear hx
   go_enter Tryz.func43, Tryz.ntmps43
   go_wp2_with fail
   go_ret2
   exact ⟨rfl, (Below.refl _ _).alloc (nR _) _⟩
  ·have hx2 : (0 : Int) < lt := by omega
   clear hx
   go_enter Tryz.func43, Tryz.ntmps43
   go_wp2_with fail
   go_ret2
   exact ⟨rfl, (Below.refl _ _).alloc (nR _) _⟩
 ·
  have he : s.toList.isEmpty = false := by rw [empty_list2]; exact dF h1
  clear h9
  go_enter Tryz.func43, Tryz.ntmps43
  go_wp2_with fail
  go_ret2
  exact ⟨rfl, (Below.refl _ _).alloc (nR _) _⟩
 ·
  have hf : fitsB 1 (s.size : Int) s = true := by unfold fitsB; simp
  rw [hf, Bool.true_and, decide_eq_false_iff_not] at h9
  have hx : 0 < lz ∨ (lz = 0 ∧ 0 < lt) := by omega
  clear h9 hf
  rcases hx with hx | ⟨rfl, hx⟩
  ·have hx2 : (0 : Int) < lz := by omega
   clear hx
   go_enter Tryz.func43, Tryz.ntmps43
   go_wp2_with fail
   go_ret2
   exact ⟨rfl, (Below.refl _ _).alloc (nR _) _⟩
  ·have hx2 : (0 : Int) < lt := by omega
   clear hx
   go_enter Tryz.func43, Tryz.ntmps43
   go_wp2_with fail
   go_ret2
   exact ⟨rfl, (Below.refl _ _).alloc (nR _) _⟩
 ·
  have he : (n == (s.size : Int)) = false := by rw [beq_eq_false_iff_ne]; exact h1
  clear h9
  go_enter Tryz.func43, Tryz.ntmps43
  go_wp2_with fail
  go_ret2
  exact ⟨rfl, (Below.refl _ _).alloc (nR _) _⟩
 ·
  have hf : fitsB 3 n s = true := by unfold fitsB; simp
  rw [hf, Bool.true_and, decide_eq_false_iff_not] at h9
  have hx : 0 < lz ∨ (lz = 0 ∧ 0 < lt) := by omega
  clear h9 hf
  rcases hx with hx | ⟨rfl, hx⟩
  ·have hx2 : (0 : Int) < lz := by omega
   clear hx
   go_enter Tryz.func43, Tryz.ntmps43
   go_wp2_with fail
   go_ret2
   exact ⟨rfl, (Below.refl _ _).alloc (nR _) _⟩
  ·have hx2 : (0 : Int) < lt := by omega
   clear hx
   go_enter Tryz.func43, Tryz.ntmps43
   go_wp2_with fail
   go_ret2
   exact ⟨rfl, (Below.refl _ _).alloc (nR _) _⟩
 ·
  have he1 : (k == 0) = false := by rw [beq_eq_false_iff_ne]; exact h1
  have he2 : (k == 1) = false := by rw [beq_eq_false_iff_ne]; exact h2
  have he3 : (k == 3) = false := by rw [beq_eq_false_iff_ne]; exact h3
  clear h9
  go_enter Tryz.func43, Tryz.ntmps43
  go_wp2_with fail
  go_ret2
  exact ⟨rfl, (Below.refl _ _).alloc (nR _) _⟩
theorem rbody_plain_ok {w : World} {Az At : Option Addr} {lz cz lt ct : Nat} {k n : Int} {z : List Int} {s : ByteArray} {l : List Fld} (hz : Ints w Az lz z) (ht : Fds w At lt l) (hs : s.size ≤ 1000000) (hlz : lz ≤ 1000) (hlt : lt ≤ 1000) (hls : ∀ g ∈ l, g.1.size ≤ 1000 ∧ g.2.size ≤ 1000) (h0 : 0 ≤ n) (hk : k ≠ 2) (h9 : (fitsB k n s && decide (lz + lt = 0)) = true) : Calls Tryz.prog 43 #[.agg #[.int .i64 k, .int .i64 n], .slice Az lz cz, .string s, .slice At lt ct] w fun o w' => o = .returned (.tuple #[.string (s), .int .i64 0]) ∧ Below w.heap.size w w' := by
 have n2 : (k == 2) = false := by rw [beq_eq_false_iff_ne]; exact hk
 have n3 : (k != 2) = true := by rw [bne_iff_ne]; exact hk
 have n4 : decide (n < 0) = false := by rw [decide_eq_false_iff_not]; omega
 have hw := six_ways k n s
 clear hz ht hs hls hk
 rcases hw with ⟨rfl, h1⟩ | ⟨rfl, h1⟩ | ⟨rfl, rfl⟩ | ⟨rfl, h1⟩ | rfl | ⟨h1, h2, h3⟩
 ·
  have he : s.toList.isEmpty = true := by rw [empty_list2]; exact dT h1
  have hx : lz = 0 ∧ lt = 0 := by
   rw [Bool.and_eq_true, decide_eq_true_eq] at h9
   omega
  obtain ⟨rfl, rfl⟩ := hx
  clear h9
  go_enter Tryz.func43, Tryz.ntmps43
  go_wp2_with fail
  go_ret2
  exact ⟨rfl, (Below.refl _ _).alloc (nR _) _⟩
 ·
  have he : s.toList.isEmpty = false := by rw [empty_list2]; exact dF h1
  unfold fitsB at h9
  simp [h1] at h9
 ·
  have hx : lz = 0 ∧ lt = 0 := by
   rw [Bool.and_eq_true, decide_eq_true_eq] at h9
   omega
  obtain ⟨rfl, rfl⟩ := hx
  clear h9
  go_enter Tryz.func43, Tryz.ntmps43
  go_wp2_with fail
  go_ret2
  exact ⟨rfl, (Below.refl _ _).alloc (nR _) _⟩
 ·
  have he : (n == (s.size : Int)) = false := by rw [beq_eq_false_iff_ne]; exact h1
  unfold fitsB at h9
  simp [h1] at h9
 ·
  have hx : lz = 0 ∧ lt = 0 := by
   rw [Bool.and_eq_true, decide_eq_true_eq] at h9
   omega
  obtain ⟨rfl, rfl⟩ := hx
  clear h9
  go_enter Tryz.func43, Tryz.ntmps43
  go_wp2_with fail
  go_ret2
  exact ⟨rfl, (Below.refl _ _).alloc (nR _) _⟩
 ·
  have he1 : (k == 0) = false := by rw [beq_eq_false_iff_ne]; exact h1
  have he2 : (k == 1) = false := by rw [beq_eq_false_iff_ne]; exact h2
  have he3 : (k == 3) = false := by rw [beq_eq_false_iff_ne]; exact h3
  unfold fitsB at h9
  simp [h1, h2, h3] at h9
theorem rbody_two {w : World} {Az At : Option Addr} {lz cz lt ct : Nat} {k n : Int} {z : List Int} {s : ByteArray} {l : List Fld} (hz : Ints w Az lz z) (ht : Fds w At lt l) (hs : s.size ≤ 1000000) (hlz : lz ≤ 1000) (hlt : lt ≤ 1000) (hls : ∀ g ∈ l, g.1.size ≤ 1000 ∧ g.2.size ≤ 1000) (h0 : 0 ≤ n) {R : ByteArray} {e : Int} (hr : (if cutF z s.size ≠ some 0 then ((⟨#[]⟩ : ByteArray), (14 : Int)) else if badF l = true then (⟨#[]⟩, 7) else (chunksL (cutP s z z.length) ++ lastB l, 0)) = (R, e)) : Calls Tryz.prog 43 #[.agg #[.int .i64 2, .int .i64 n], .slice Az lz cz, .string s, .slice At lt ct] w fun o w' => o = .returned (.tuple #[.string (R), .int .i64 e]) ∧ Below w.heap.size w w' := by
 have n4 : decide (n < 0) = false := by rw [decide_eq_false_iff_not]; omega
 have HR := lH hr
 have HZ := lH hz
 have HT := lH ht
 have HLS := lH hls
 have HSZ := lH hs
 have hlen : z.length = lz := hz.1
 have hsi : (s.size : Int) ≤ 1000000 := by omega
 have HB : Hid (Below w.heap.size w (w.alloc (.cells #[.int .i64 2, .int .i64 n] 37))) := (Below.refl _ _).alloc (nR _) _
 clear hr hz ht hls hs h0
 go_enter Tryz.func43, Tryz.ntmps43
 go_wp2_with fail
 go_loopw [12, 11, 2] (fun i v u wr => ∃ j : Nat, j ≤ lz ∧ i = .int .i64 j ∧ v = .string (chunksL (cutP s z j)) ∧ u = .string (s.extract (offK z j) s.size) ∧ cutF (z.take j) s.size = some ((s.size : Int) - offK z j) ∧ offK z j ≤ s.size ∧ Below w.heap.size w wr) (fun i _ _ _ => lz - (intOf i).toNat)
 case atStart => exact ⟨0, by omega, rfl, rfl, by rw [offK_zero]; exact congrArg Value.string (bytes_whole s), by rw [offK_zero, List.take_zero]; simp [cutF], by rw [offK_zero]; omega, HB.out⟩
 case round =>
  obtain ⟨j, hj, rfl, rfl, rfl, hcut, hoff, hbel⟩ := hrel
  have HC := lH hcut
  have HL := lH hbel
  obtain ⟨S, hS⟩ : ∃ S, S = s.extract (offK z j) s.size := ⟨_, rfl⟩
  have hSs : S.size = s.size - offK z j := by rw [hS]; simp
  obtain ⟨O, hO⟩ : ∃ O, O = chunksL (cutP s z j) := ⟨_, rfl⟩
  have hOs : O.size ≤ 1000100 * 1000 := by
   have h1 := chunksL_size (cutP s z j) (fun q hq => by
    obtain ⟨u, _, rfl⟩ := List.mem_map.1 hq
    have := HSZ.out
    simp; omega)
   rw [cutP_length] at h1
   rw [hO]
   exact nT h1 (Nat.mul_le_mul_left _ (by omega))
  rw [← hS, ← hO]
  clear hcut hbel
  by_cases hlt2 : j < lz
  ·obtain ⟨b, off, rfl, hbw, hc⟩ := HZ.out.2 (by omega)
   obtain ⟨m, hg⟩ : ∃ m, z[j]? = some m := ⟨z[j]'(by omega), List.getElem?_eq_getElem (by omega)⟩
   obtain ⟨c00, hm1, hm2⟩ := hc j m hg
   have c0 : wr.cell? ⟨b, off + j, none⟩ = some (.int .i64 m) := (HL.out.cell (p := ⟨b, off + j, none⟩) hbw).trans c00
   have hge : z[j]'(by omega) = m := by
    rw [List.getElem?_eq_getElem (by omega)] at hg
    exact Option.some.inj hg
   have HTK : Hid (z.take (j + 1) = z.take j ++ [m]) := by show _ = _; rw [List.take_succ_eq_append_getElem (by omega), hge]
   have HAP : Hid (z = z.take (j + 1) ++ z.drop (j + 1)) := (List.take_append_drop _ _).symm
   have hki : (j : Int) < lz := by omega
   have hli : (lz : Int) ≤ 1000 := by omega
   have hSi : (S.size : Int) = s.size - offK z j := by omega
   by_cases hx : m < 1 ∨ (S.size : Int) < m
   ·have HN : Hid (cutF z s.size ≠ some 0) := by
     show cutF z s.size ≠ some 0
     rw [HAP.out, HTK.out, cutF_append, cutF_append, HC.out]
     show (((cutF [m] ((s.size : Int) - offK z j))).bind _) ≠ _
     rw [cutF, if_pos (by omega)]
     simp
    have hv := HR.out
    rw [if_pos HN.out] at hv
    obtain ⟨rfl, rfl⟩ := Prod.mk.inj hv
    clear hc c00 hg hge hbw hv hS hSs hO hOs hSi hoff
    rcases (by omega : m < 1 ∨ (1 ≤ m ∧ (S.size : Int) < m)) with hx1 | ⟨hx1, hx2⟩
    ·clear hx
     go_wp2_with fail
     go_ret2
     exact ⟨rfl, HL.out⟩
    ·have d1 : decide (m < 1) = false := by rw [decide_eq_false_iff_not]; omega
     clear hx
     go_wp2_with fail
     go_ret2
     exact ⟨rfl, HL.out⟩
   ·have d1 : decide (m < 1) = false := by rw [decide_eq_false_iff_not]; omega
    have d2 : decide ((S.size : Int) < m) = false := by rw [decide_eq_false_iff_not]; omega
    have ho := offK_succ z hg
    obtain ⟨P, hP⟩ : ∃ P, P = s.extract (offK z j) (offK z (j + 1)) := ⟨_, rfl⟩
    have hPs : (P.size : Int) = m := by rw [hP]; simp; omega
    have s1 : ∀ W : World, (Instr.slice 9 (.string S) none (some (.int .i64 m)) none).run Tryz.prog W = .ok (.string P) W := fun W => by
     rw [run_slice_string_h W 9 S Tryz.underlying9 .i64 m (by omega) (by omega), hS, ByteArray.extract_extract, hP]
     congr 3
     omega
    have s2 : ∀ W : World, (Instr.slice 9 (.string S) (some (.int .i64 m)) none none).run Tryz.prog W = .ok (.string (s.extract (offK z (j + 1)) s.size)) W := fun W => by
     rw [run_slice_string_l W 9 S Tryz.underlying9 .i64 m (by omega) (by omega), hSs, hS, ByteArray.extract_extract]
     congr 3 <;> omega
    obtain ⟨G, hG⟩ : ∃ G, G = beginB m := ⟨_, rfl⟩
    have hGs : G.size ≤ 66 := by rw [hG]; exact beginB_size _ (by omega)
    have HG : Hid (∀ W : World, Calls Tryz.prog 83 #[.int .i64 m] W fun e w' => e = .returned (.string G) ∧ Below W.heap.size W w') := fun W => by rw [hG]; exact rbegin_any _ (by omega) (by omega) W
    obtain ⟨A1, hA1⟩ : ∃ A, A = O ++ G := ⟨_, rfl⟩
    have hA1s : A1.size = O.size + G.size := by rw [hA1, ByteArray.size_append]
    have a1 : ∀ W : World, (Op.stringOp .add O G).run Tryz.prog W = .ok (.string A1) W := fun W => (run_string_add_sum (P := Tryz.prog) (w := W) O G (by omega)).trans (by rw [← hA1])
    obtain ⟨A2, hA2⟩ : ∃ A, A = A1 ++ P := ⟨_, rfl⟩
    have hA2s : A2.size = A1.size + P.size := by rw [hA2, ByteArray.size_append]
    have a2 : ∀ W : World, (Op.stringOp .add A1 P).run Tryz.prog W = .ok (.string A2) W := fun W => (run_string_add_sum (P := Tryz.prog) (w := W) A1 P (by omega)).trans (by rw [← hA2])
    obtain ⟨A3, hA3⟩ : ∃ A, A = A2 ++ ⟨#[13, 10]⟩ := ⟨_, rfl⟩
    have a3 : ∀ W : World, (Op.stringOp .add A2 ⟨#[13, 10]⟩).run Tryz.prog W = .ok (.string A3) W := fun W => (run_string_add_sum (P := Tryz.prog) (w := W) A2 ⟨#[13, 10]⟩ (by show A2.size + 2 ≤ _; omega)).trans (by rw [← hA3])
    have HN : Hid (A3 = chunksL (cutP s z (j + 1))) := by
     show A3 = _
     rw [cutP_succ, chunksL_snoc, ← hP, ← hO, hA3, hA2, hA1, hG, hPs]
     simp only [ByteArray.append_assoc]
     rfl
    have HCN : Hid (cutF (z.take (j + 1)) s.size = some ((s.size : Int) - offK z (j + 1)) ∧ offK z (j + 1) ≤ s.size) := by
     show _ ∧ _
     refine ⟨?_, by omega⟩
     rw [HTK.out, cutF_append, HC.out]
     show cutF [m] _ = _
     rw [cutF, if_neg (by omega)]
     show some _ = some _
     congr 1
     omega
    obtain ⟨I, hIe⟩ : ∃ I : World → Prop, I = fun x => x.cell? ⟨b, off + j, none⟩ = some (.int .i64 m) ∧ Below w.heap.size w x := ⟨_, rfl⟩
    have HBW := lH hbw
    have HIO := lH (show ∀ x, I x → x.cell? ⟨b, off + j, none⟩ = some (.int .i64 m) ∧ Below w.heap.size w x by rw [hIe]; exact fun _ h => h)
    have HIM : Hid (∀ x x', I x → Below x.heap.size x x' → I x') := by
     show ∀ x x', I x → Below x.heap.size x x' → I x'
     rw [hIe]
     exact fun x x' h hb => ⟨(hb.cell (p := ⟨b, off + j, none⟩) (World.block_lt_of_cell? _ _ h.1)).trans h.1, h.2.trans (hb.mono h.2.size)⟩
    have hI0 : I wr.drew := by rw [hIe]; exact ⟨c0, HL.out.drew⟩
    have NI : Nonempty (Cl I) := ⟨⟨_, hI0⟩⟩
    have HI0 := lH hI0
    have q0 : ∀ s : Cl I, s.val.cell? ⟨b, off + j, none⟩ = some (.int .i64 m) := fun s => (HIO.out _ s.ok).1
    clear hc c00 hg hge hbw hS hSs hO hOs hSi hoff ho hP hPs hG hGs hA1 hA1s hA2 hA2s hA3 hIe hI0 hx
    go_wp2_with fail
    refine wp_region_cl HI0.out (by kernel_rfl) (by kernel_rfl) ?_
    repeat go_big_quiet_step ((go_at_call 83; exact Calls.cl_of ((HG.out _).mono fun _ _ ⟨a, b⟩ => ⟨a, HIM.out _ _ (Cl.ok _) b⟩)))
    refine wpQuiet_nil ?_
    rintro _ ⟨x, rfl⟩
    have c1 := q0 x
    go_wp2_with fail
    go_roundw
    case rel => exact ⟨j + 1, by omega, by go_num, by rw [HN.out], rfl, HCN.out.1, HCN.out.2, (HIO.out _ x.ok).2⟩
    case measure => simp [intOf]; omega
  ·obtain rfl : j = lz := by omega
   have hcz : cutF z s.size = some ((s.size : Int) - offK z j) := by
    have := HC.out
    rw [List.take_of_length_le (by omega)] at this
    exact this
   by_cases hS0 : S.size = 0
   rotate_left
   ·have he : S.toList.isEmpty = false := by rw [empty_list2]; exact dF hS0
    have hv := HR.out
    rw [if_pos (by rw [hcz]; intro h; injection h with h; omega)] at hv
    obtain ⟨rfl, rfl⟩ := Prod.mk.inj hv
    clear hv hcz hS hO hOs hSs hS0 hoff
    go_wp2_with fail
    go_ret2
    exact ⟨rfl, HL.out⟩
   ·have he : S.toList.isEmpty = true := by rw [empty_list2]; exact dT hS0
    have hv := HR.out
    rw [if_neg (by rw [hcz]; intro h; apply h; congr 1; omega)] at hv
    have HV := lH hv
    have HO := lH hO
    clear hv hcz hS hO hSs hS0 hoff
    go_wp2_with fail
    go_loopw [13] (fun i wv => ∃ q : Nat, q ≤ lt ∧ i = .int .i64 q ∧ badF (l.take q) = false ∧ Below w.heap.size w wv) (fun i _ => lt - (intOf i).toNat)
    case atStart => exact ⟨0, by omega, rfl, rfl, HL.out⟩
    case round =>
     obtain ⟨q, hq, rfl, hbad, hbel⟩ := hrel
     have HD := lH hbad
     have HL2 := lH hbel
     clear hbad hbel
     have hTl : l.length = lt := HT.out.1
     by_cases hql : q < lt
     ·obtain ⟨b, off, rfl, hbw, hc⟩ := (HT.out.below HL2.out).2 (by omega)
      obtain ⟨g, hg⟩ : ∃ g, l[q]? = some g := ⟨l[q]'(by omega), List.getElem?_eq_getElem (by omega)⟩
      obtain ⟨c0, c1⟩ := hc q g hg
      have hge : l[q]'(by omega) = g := by
       rw [List.getElem?_eq_getElem (by omega)] at hg
       exact Option.some.inj hg
      have hgs := HLS.out g (List.mem_of_getElem? hg)
      have HM := lH (List.mem_of_getElem? hg)
      obtain ⟨nn, v⟩ := g
      simp only at c0 c1 hgs
      obtain ⟨p, hp⟩ : ∃ p, p = fieldR nn v := ⟨_, rfl⟩
      have HX : Hid (∀ W : World, Calls Tryz.prog 82 #[.agg #[.string nn, .string v]] W fun e w' => e = .returned (.bool p) ∧ Below W.heap.size W w') := fun W => by rw [hp]; exact rfright_any nn v (by omega) (by omega) W
      have hki : (q : Int) < lt := by omega
      have hli : (lt : Int) ≤ 1000 := by omega
      have HP := lH hp
      have HG : Hid (l.take (q + 1) = l.take q ++ [(nn, v)]) := by show _ = _; rw [List.take_succ_eq_append_getElem (by omega), hge]
      clear hc hg hge hgs hbw hp
      cases p
      ·have hv := HV.out
       rw [if_pos (by unfold badF; rw [List.any_eq_true]; exact ⟨_, HM.out, by show (!(fieldR nn v)) = true; rw [← HP.out]; rfl⟩)] at hv
       obtain ⟨rfl, rfl⟩ := Prod.mk.inj hv
       clear hv
       go_wp2_with fail
       refine (HX.out _).mono ?_
       rintro e' w2 ⟨rfl, hb⟩
       have HB2 := lH hb
       clear hb c0 c1
       go_wp2_with fail
       go_ret2
       exact ⟨rfl, HL2.out.trans (HB2.out.mono HL2.out.size)⟩
      ·have HN : Hid (badF (l.take (q + 1)) = false) := by
        show _ = _
        rw [HG.out]
        unfold badF
        have := HD.out
        unfold badF at this
        rw [List.any_append, this]
        simp only [List.any_cons, List.any_nil, Bool.or_false, Bool.false_or]
        rw [← HP.out]; rfl
       go_wp2_with fail
       refine (HX.out _).mono ?_
       rintro e' w2 ⟨rfl, hb⟩
       have HB2 := lH hb
       clear hb c0 c1
       go_wp2_with fail
       go_roundw
       case rel => exact ⟨q + 1, by omega, by go_num, HN.out, HL2.out.trans (HB2.out.mono HL2.out.size)⟩
       case measure => simp [intOf]; omega
     ·obtain rfl : q = lt := by omega
      have hbl : badF l = false := by
       have := HD.out
       rw [List.take_of_length_le (by omega)] at this
       exact this
      have hv := HV.out
      rw [if_neg (by rw [hbl]; decide)] at hv
      obtain ⟨hv1, rfl⟩ := Prod.mk.inj hv
      obtain ⟨L, hL⟩ : ∃ L, L = lastB l := ⟨_, rfl⟩
      have HLC := lH (rlast_any (cap := ct) (HT.out.below HL2.out) hlt HLS.out)
      rw [← hL] at HLC
      have hLs : L.size ≤ 2004100 := by
       have h1 := lastA_size l HLS.out l.length (nR _)
       rw [List.take_length] at h1
       rw [hL]
       unfold lastB
       rw [ByteArray.size_append]
       show (lastA l).size + 2 ≤ _
       omega
      have a1 := fun (W : World) => run_string_add_sum (P := Tryz.prog) (w := W) O L (by omega)
      have HE : Hid (O ++ L = R) := by show O ++ L = R; rw [← hv1, HO.out, hL, hlen]
      clear hv hv1 hL hLs hbl hOs
      go_wp2_with fail
      refine HLC.out.mono ?_
      rintro e' w2 ⟨rfl, hb⟩
      have HB2 := lH hb
      clear hb
      go_wp2_with fail
      go_ret2
      rw [HE.out]
      exact ⟨rfl, HL2.out.trans (HB2.out.mono HL2.out.size)⟩
theorem rbody_any {w : World} {Az At : Option Addr} {lz cz lt ct : Nat} {k n : Int} {z : List Int} {s : ByteArray} {l : List Fld} (hz : Ints w Az lz z) (ht : Fds w At lt l) (hs : s.size ≤ 1000000) (hlz : lz ≤ 1000) (hlt : lt ≤ 1000) (hls : ∀ g ∈ l, g.1.size ≤ 1000 ∧ g.2.size ≤ 1000) {R : ByteArray} {e : Int} (hr : bodyRes k n z s l = (R, e)) : Calls Tryz.prog 43 #[.agg #[.int .i64 k, .int .i64 n], .slice Az lz cz, .string s, .slice At lt ct] w fun o w' => o = .returned (.tuple #[.string (R), .int .i64 e]) ∧ Below w.heap.size w w' := by
 have e1 : z.length = lz := hz.1
 have e2 : l.length = lt := ht.1
 unfold bodyRes at hr
 by_cases h0 : n < 0
 ·rw [if_pos h0] at hr
  obtain ⟨rfl, rfl⟩ := Prod.mk.inj hr
  exact rbody_neg hz ht hs hlz hlt hls h0
 rw [if_neg h0] at hr
 by_cases hk : k = 2
 rotate_left
 ·rw [if_pos hk] at hr
  by_cases hf : fitsB k n s = true ∧ z.length = 0 ∧ l.length = 0
  ·rw [if_pos hf] at hr
   obtain ⟨rfl, rfl⟩ := Prod.mk.inj hr
   exact rbody_plain_ok hz ht hs hlz hlt hls (by omega) hk (by rw [hf.1, dT (by omega)]; rfl)
  ·rw [if_neg hf] at hr
   obtain ⟨rfl, rfl⟩ := Prod.mk.inj hr
   refine rbody_plain_no hz ht hs hlz hlt hls (by omega) hk ?_
   cases hff : fitsB k n s
   ·rfl
   ·rw [Bool.true_and, decide_eq_false_iff_not]
    exact fun h => hf ⟨hff, by omega, by omega⟩
 rw [if_neg (by omega)] at hr
 subst hk
 exact rbody_two (k := 2) hz ht hs hlz hlt hls (by omega) hr
end Go.Proofs.YtaojfiegnebbdaaGreatDoor
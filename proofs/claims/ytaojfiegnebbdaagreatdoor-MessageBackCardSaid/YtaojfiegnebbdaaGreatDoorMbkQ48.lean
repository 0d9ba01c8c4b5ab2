/- Texts packed for one claim, 48 of 52: EncBodyW EncRef EncLaw. -/
import Derived.Test.YtaojfiegnebbdaaGreatDoorMbkQ39
import Derived.RangeFuncNested
import Derived.RangeFuncBound
import Derived.RangeFuncCalls
import Derived.Shelf.RegionOpen
set_option maxRecDepth 100000
set_option maxHeartbeats 16000000
set_option linter.unusedSimpArgs false
set_option linter.unusedVariables false
-- EncBodyW
namespace Go.Proofs.YtaojfiegnebbdaaGreatDoor
open Go.RowKit Go.Shelf
attribute [local go_sem] Oper.semAt_some
theorem KeepsO {P : Nat → Prop} {w w' : World} (t : Touch P w w') (hP : ∀ i, i < w.heap.size → P i → ∃ cs ty fz, w.heap[i]? = some (.cells cs ty fz)) : KeepsOthers w w' :=
 ⟨t.size, fun k o hk ho => by
  have hlt : k < w.heap.size := (Array.getElem?_eq_some_iff.1 hk).1
  by_cases hp : P k
  ·obtain ⟨cs, ty, fz, h⟩ := hP k hlt hp
   rw [hk] at h
   injection h with h
   subst h
   cases ho
  ·exact (t.block k hlt hp).trans hk⟩
theorem bld_own {B b : Nat} {p v : Value} {T : List UInt8} {W W' : World} {row : Option Nat} (h : Own.Bld W B b p v T) (hg : W.grownBy W' row) (hr : ∀ r, row = some r → ∃ o : Obj, W.heap[r]? = some o ∧ o.isCells = false) : Own.Bld W' B b p v T := by
 have ne : ∀ k cs ty fz, W.heap[k]? = some (.cells cs ty fz) → some k ≠ row := fun k cs ty fz hk e => by
  obtain ⟨o, ho, hc⟩ := hr k e.symm
  rw [hk] at ho
  injection ho with ho
  subst ho
  cases hc
 have hb := h.blk
 refine ⟨h.addr, ?_, ?_, h.nil⟩
 ·exact (hg.block b h.blk.lt (ne b _ _ _ hb)).trans hb
 ·obtain ⟨h1, h2⟩ := h.own
  refine ⟨h1, ?_⟩
  rcases h2 with h2 | ⟨g, cap, cur, fz, rfl, hbg, hgg, r⟩
  ·exact .inl h2
  ·refine .inr ⟨g, cap, cur, fz, rfl, hbg, ?_, r⟩
   have hlt : g < W.heap.size := (Array.getElem?_eq_some_iff.1 hgg).1
   exact (hg.block g hlt (ne g _ _ _ hgg)).trans hgg
theorem chunks_fold : ∀ (l : List ByteArray) (o : ByteArray), (∀ p ∈ l, p.size ≤ 1000000) → (l.foldl (fun o p => o ++ (beginB p.size ++ p ++ crlf)) o).size ≤ o.size + 1000100 * l.length
 | [], o, _ => nR _
 | p :: l, o, h => by
   have h1 := chunks_fold l (o ++ (beginB p.size ++ p ++ crlf)) (fun q hq => h q (by simp [hq]))
   have h2 := h p (by simp)
   have h3 := beginB_size (p.size : Int) (by omega)
   have h4 : crlf.size = 2 := rfl
   rw [ByteArray.size_append, ByteArray.size_append, ByteArray.size_append] at h1
   rw [List.foldl_cons, List.length_cons]
   omega
theorem chunksL_size (l : List ByteArray) (h : ∀ p ∈ l, p.size ≤ 1000000) : (chunksL l).size ≤ 1000100 * l.length := by
 have := chunks_fold l ⟨#[]⟩ h
 have h0 : (⟨#[]⟩ : ByteArray).size = 0 := rfl
 rw [h0] at this
 unfold chunksL
 omega
theorem body_neg {w : World} {Az At : Option Addr} {lz cz lt ct : Nat} {k n : Int} {z : List Int} {s : ByteArray} {l : List Fld} (hz : Ints w Az lz z) (ht : Fds w At lt l) (hs : s.size ≤ 1000000) (hlz : lz ≤ 1000) (hlt : lt ≤ 1000) (hls : ∀ g ∈ l, g.1.size ≤ 1000 ∧ g.2.size ≤ 1000) (h0 : n < 0) : Calls Tryz.prog 40 #[.agg #[.int .i64 k, .int .i64 n], .slice Az lz cz, .string s, .slice At lt ct] w fun o w' => o = .returned (.tuple #[.string (⟨#[]⟩), .int .i64 14]) ∧ Below w.heap.size w w' := by
 clear hz ht hs hlz hlt hls
 go_enter Tryz.func40, Tryz.ntmps40
 go_wp2_with fail
 go_ret2
 exact ⟨rfl, (Below.refl _ _).alloc (nR _) _⟩
theorem body_plain_no {w : World} {Az At : Option Addr} {lz cz lt ct : Nat} {k n : Int} {z : List Int} {s : ByteArray} {l : List Fld} (hz : Ints w Az lz z) (ht : Fds w At lt l) (hs : s.size ≤ 1000000) (hlz : lz ≤ 1000) (hlt : lt ≤ 1000) (hls : ∀ g ∈ l, g.1.size ≤ 1000 ∧ g.2.size ≤ 1000) (h0 : 0 ≤ n) (hk : k ≠ 2) (h1 : (fitsB k n s && decide (lz + lt = 0)) = false) : Calls Tryz.prog 40 #[.agg #[.int .i64 k, .int .i64 n], .slice Az lz cz, .string s, .slice At lt ct] w fun o w' => o = .returned (.tuple #[.string (⟨#[]⟩), .int .i64 14]) ∧ Below w.heap.size w w' := by
 have n2 : (k == 2) = false := by rw [beq_eq_false_iff_ne]; exact hk
 have n3 : (k != 2) = true := by rw [bne_iff_ne]; exact hk
 have n4 : decide (n < 0) = false := by rw [decide_eq_false_iff_not]; omega
 obtain ⟨p, hp⟩ : ∃ p, fitsB k n s = p := ⟨_, rfl⟩
 have HC := lH (fun W => fits_any k n s hp W)
 have HB : Hid (Below w.heap.size w (w.alloc (.cells #[.int .i64 k, .int .i64 n] 37))) := (Below.refl _ _).alloc (nR _) _
 rw [hp] at h1
 clear hz ht hs hls hp hk
 cases p
 ·
  go_enter Tryz.func40, Tryz.ntmps40
  go_wp2_with fail
  refine (HC.out _).mono ?_
  rintro e' w1 ⟨rfl, hb⟩
  have HB1 := lH (HB.out.trans (hb.mono HB.out.size))
  clear hb
  go_wp2_with fail
  go_ret2
  exact ⟨rfl, HB1.out⟩
 ·have hx : 0 < lz + lt := by
   simp only [Bool.true_and, decide_eq_false_iff_not] at h1
   omega
  have hx2 : (0 : Int) < (lz : Int) + lt := by omega
  clear h1
  go_enter Tryz.func40, Tryz.ntmps40
  go_wp2_with fail
  refine (HC.out _).mono ?_
  rintro e' w1 ⟨rfl, hb⟩
  have HB1 := lH (HB.out.trans (hb.mono HB.out.size))
  clear hb
  go_wp2_with fail
  go_ret2
  exact ⟨rfl, HB1.out⟩
theorem body_plain_ok {w : World} {Az At : Option Addr} {lz cz lt ct : Nat} {k n : Int} {z : List Int} {s : ByteArray} {l : List Fld} (hz : Ints w Az lz z) (ht : Fds w At lt l) (hs : s.size ≤ 1000000) (hlz : lz ≤ 1000) (hlt : lt ≤ 1000) (hls : ∀ g ∈ l, g.1.size ≤ 1000 ∧ g.2.size ≤ 1000) (h0 : 0 ≤ n) (hk : k ≠ 2) (h1 : (fitsB k n s && decide (lz + lt = 0)) = true) : Calls Tryz.prog 40 #[.agg #[.int .i64 k, .int .i64 n], .slice Az lz cz, .string s, .slice At lt ct] w fun o w' => o = .returned (.tuple #[.string (s), .int .i64 0]) ∧ Below w.heap.size w w' := by
 have n2 : (k == 2) = false := by rw [beq_eq_false_iff_ne]; exact hk
 have n3 : (k != 2) = true := by rw [bne_iff_ne]; exact hk
 have n4 : decide (n < 0) = false := by rw [decide_eq_false_iff_not]; omega
 obtain ⟨p, hp⟩ : ∃ p, fitsB k n s = p := ⟨_, rfl⟩
 have HC := lH (fun W => fits_any k n s hp W)
 have HB : Hid (Below w.heap.size w (w.alloc (.cells #[.int .i64 k, .int .i64 n] 37))) := (Below.refl _ _).alloc (nR _) _
 rw [hp] at h1
 clear hz ht hs hls hp hk
 cases p
 ·cases h1
 ·have hx : lz = 0 ∧ lt = 0 := by
   simp only [Bool.true_and, decide_eq_true_eq] at h1
   omega
  obtain ⟨rfl, rfl⟩ := hx
  clear h1
  go_enter Tryz.func40, Tryz.ntmps40
  go_wp2_with fail
  refine (HC.out _).mono ?_
  rintro e' w1 ⟨rfl, hb⟩
  have HB1 := lH (HB.out.trans (hb.mono HB.out.size))
  clear hb
  go_wp2_with fail
  go_ret2
  exact ⟨rfl, HB1.out⟩
theorem body_cut {w : World} {Az At : Option Addr} {lz cz lt ct : Nat} {k n : Int} {z : List Int} {s : ByteArray} {l : List Fld} (hz : Ints w Az lz z) (ht : Fds w At lt l) (hs : s.size ≤ 1000000) (hlz : lz ≤ 1000) (hlt : lt ≤ 1000) (hls : ∀ g ∈ l, g.1.size ≤ 1000 ∧ g.2.size ≤ 1000) (h0 : 0 ≤ n) (h1 : cutF z s.size ≠ some 0) (hk : k = 2) : Calls Tryz.prog 40 #[.agg #[.int .i64 k, .int .i64 n], .slice Az lz cz, .string s, .slice At lt ct] w fun o w' => o = .returned (.tuple #[.string (⟨#[]⟩), .int .i64 14]) ∧ Below w.heap.size w w' := by
 subst hk
 have n4 : decide (n < 0) = false := by rw [decide_eq_false_iff_not]; omega
 have HB : Hid (Below w.heap.size w (w.alloc (.cells #[.int .i64 2, .int .i64 n] 37))) := (Below.refl _ _).alloc (nR _) _
 have HCT := lH (cuts_any s (by omega) (cap := cz) (hz.below HB.out) (by omega))
 clear hz ht hs hls
 cases hc : cutF z s.size with
 | none =>
   rw [hc] at HCT
   clear hc h1
   go_enter Tryz.func40, Tryz.ntmps40
   go_wp2_with fail
   refine HCT.out.mono ?_
   rintro e' w1 ⟨rfl, hw⟩
   have HB1 : Hid (Below w.heap.size w w1) := by show Below _ _ _; rw [hw]; exact ((HB.out.alloc HB.out.size _).alloc (by simp; omega) _)
   clear hw
   have hv : ∀ g, cutV g none = .tuple #[.nilFunc, .bool false] := fun _ => rfl
   rw [hv]
   go_wp2_with fail
   go_ret2
   exact ⟨rfl, HB1.out⟩
 | some y =>
   rw [hc] at HCT h1
   have hy : (y == 0) = false := by rw [beq_eq_false_iff_ne]; exact fun h => h1 (by rw [h])
   clear hc h1
   go_enter Tryz.func40, Tryz.ntmps40
   go_wp2_with fail
   refine HCT.out.mono ?_
   rintro e' w1 ⟨rfl, hw⟩
   have HB1 : Hid (Below w.heap.size w w1) := by show Below _ _ _; rw [hw]; exact ((HB.out.alloc HB.out.size _).alloc (by simp; omega) _)
   clear hw
   have hv : ∀ g, cutV g (some y) = .tuple #[.func (.func 111) #[] #[.pointer (some ⟨g, 0, none⟩), .pointer (some ⟨g + 1, 0, none⟩)], .bool (y == 0)] := fun _ => rfl
   rw [hv, hy]
   go_wp2_with fail
   go_ret2
   exact ⟨rfl, HB1.out⟩
theorem body_bad {w : World} {Az At : Option Addr} {lz cz lt ct : Nat} {k n : Int} {z : List Int} {s : ByteArray} {l : List Fld} (hz : Ints w Az lz z) (ht : Fds w At lt l) (hs : s.size ≤ 1000000) (hlz : lz ≤ 1000) (hlt : lt ≤ 1000) (hls : ∀ g ∈ l, g.1.size ≤ 1000 ∧ g.2.size ≤ 1000) (h0 : 0 ≤ n) (h1 : cutF z s.size = some 0) (hk : k = 2) (h2 : badF l = true) : Calls Tryz.prog 40 #[.agg #[.int .i64 k, .int .i64 n], .slice Az lz cz, .string s, .slice At lt ct] w fun o w' => o = .returned (.tuple #[.string (⟨#[]⟩), .int .i64 7]) ∧ Below w.heap.size w w' := by
 subst hk
 have n4 : decide (n < 0) = false := by rw [decide_eq_false_iff_not]; omega
 have HB : Hid (Below w.heap.size w (w.alloc (.cells #[.int .i64 2, .int .i64 n] 37))) := (Below.refl _ _).alloc (nR _) _
 have HCT := lH (cuts_any s (by omega) (cap := cz) (hz.below HB.out) (by omega))
 rw [h1] at HCT
 have HT := lH ht
 have HS := lH hls
 have H2 := lH h2
 clear hz ht hs hls h1 h2
 go_enter Tryz.func40, Tryz.ntmps40
 go_wp2_with fail
 refine HCT.out.mono ?_
 rintro e' w1 ⟨rfl, hw⟩
 have HB1 : Hid (Below w.heap.size w w1) := by show Below _ _ _; rw [hw]; exact ((HB.out.alloc HB.out.size _).alloc (by simp; omega) _)
 clear hw
 have hv : ∀ g, cutV g (some 0) = .tuple #[.func (.func 111) #[] #[.pointer (some ⟨g, 0, none⟩), .pointer (some ⟨g + 1, 0, none⟩)], .bool true] := fun _ => rfl
 rw [hv]
 go_wp2_with fail
 refine (contains_field (cap := ct) (HT.out.below HB1.out) hlt HS.out H2.out).mono ?_
 rintro e' w2 ⟨rfl, hb⟩
 have HB2 := lH (HB1.out.trans (hb.mono HB1.out.size))
 clear hb
 go_wp2_with fail
 go_ret2
 exact ⟨rfl, HB2.out⟩
theorem body_in (F : Fence) (N : Nat) (hw : ∀ f args (W : World) R M, Calls Tryz.prog f args W R → CallsIn F M Tryz.prog f args W R) (hfn : ∀ f, F.fn f) (hro : F.round = none) (hN : 3 ≤ N) {w : World} {Az At : Option Addr} {lz cz lt ct : Nat} {k n : Int} {z : List Int} {s : ByteArray} {l : List Fld} (hz : Ints w Az lz z) (ht : Fds w At lt l) (hs : s.size ≤ 1000000) (hlz : lz ≤ 1000) (hlt : lt ≤ 1000) (hls : ∀ g ∈ l, g.1.size ≤ 1000 ∧ g.2.size ≤ 1000) (h0 : 0 ≤ n) (h1 : cutF z s.size = some 0) (h2 : badF l = false) :
 CallsIn F N Tryz.prog 40 #[.agg #[.int .i64 2, .int .i64 n], .slice Az lz cz, .string s, .slice At lt ct] w fun o w' => o = .returned (.tuple #[.string (chunksL (cutP s z lz) ++ lastB l), .int .i64 0]) ∧ Below w.heap.size w w' := by
 have n4 : decide (n < 0) = false := by rw [decide_eq_false_iff_not]; omega
 have HB : Hid (Below w.heap.size w (w.alloc (.cells #[.int .i64 2, .int .i64 n] 37))) := (Below.refl _ _).alloc (nR _) _
 have HCT := lH (cuts_any s (by omega) (cap := cz) (hz.below HB.out) (by omega))
 have HCO := lH (cutF_off h1)
 rw [h1] at HCT
 have HZ := lH hz
 have HT := lH ht
 have HLS := lH hls
 have H2 := lH h2
 have HSZ := lH hs
 have HW := lH hw
 have HFN := lH hfn
 have hv : ∀ g, cutV g (some 0) = .tuple #[.func (.func 111) #[] #[.pointer (some ⟨g, 0, none⟩), .pointer (some ⟨g + 1, 0, none⟩)], .bool true] := fun _ => rfl
 clear hz ht hs hls h1 h2 hw hfn
 have h1 : 1 ≤ N := by omega
 refine callsIn_of_wp_marks Tryz.func40 rfl (HFN.out _) ?_ hro
 simp only [Tryz.ntmps40, List.size_toArray, List.length_cons, List.length_nil, Nat.reduceAdd, Nat.reduceSub, Array.replicate_succ, Array.replicate_zero, List.push_toArray, List.append_toArray, List.nil_append, List.cons_append]
 gi_wp2_with fail
 refine ⟨HFN.out _, ?_⟩
 refine (HW.out _ _ _ _ _ HCT.out).mono ?_
 rintro e' w1 ⟨rfl, hw⟩
 have HB1 : Hid (Below w.heap.size w w1) := by show Below _ _ _; rw [hw]; exact ((HB.out.alloc HB.out.size _).alloc (by simp; omega) _)
 have K1 : Hid (Blk w1 (w.heap.size + 1) #[.string s] 9) := by show Blk _ _ _ _; rw [hw]; exact (Blk.new' (by simp)).alloc _
 have K2 : Hid (Blk w1 (w.heap.size + 2) #[.slice Az lz cz] 44) := by show Blk _ _ _ _; rw [hw]; exact Blk.new' (by simp)
 clear hw
 rw [hv]
 gi_wp2_with fail
 refine ⟨HFN.out _, ?_⟩
 refine (HW.out _ _ _ _ _ (contains_field (cap := ct) (HT.out.below HB1.out) hlt HLS.out H2.out)).mono ?_
 rintro e' w2 ⟨rfl, hb⟩
 have HB2 := lH (HB1.out.trans (hb.mono HB1.out.size))
 have K3 := lH (K1.out.call hb)
 have K4 := lH (K2.out.call hb)
 clear hb
 gi_wp2_with fail
 have HI0 := lH (HZ.out.below (HB2.out.alloc HB2.out.size (.cells #[.pointer none, .slice none 0 0] 115)))
 have K5 := lH (K3.out.alloc (.cells #[.pointer none, .slice none 0 0] 115))
 have K6 := lH (K4.out.alloc (.cells #[.pointer none, .slice none 0 0] 115))
 have HZ2 : Hid (z.length = lz) := HZ.out.1
 obtain ⟨n₀, hn₀⟩ : ∃ n₀, n₀ = w2.heap.size := ⟨_, rfl⟩
 refine wpIn_rangeFunc_ownF hro h1 (gf := 111) (lb := #[.pointer (some ⟨w.heap.size + 1, 0, none⟩), .pointer (some ⟨w.heap.size + 1 + 1, 0, none⟩)]) rfl (HFN.out _) (enters_of Tryz.func111 (by kernel_rfl) rfl)
  (cuts_stops F (N - 1) (HFN.out _) hro (by omega) w2.heap.size (w.heap.size + 1) s HSZ.out Az lz cz z (by omega) HCO.out.1 (by have := HCO.out.2.1; rw [HZ2.out] at this; omega) (w2.alloc (.cells #[.pointer none, .slice none 0 0] 115)) K6.out.lt (by simp) HI0.out
   (fun h0 b off e => by obtain ⟨b', off', e', hlt, _⟩ := HZ.out.2 h0; rw [e] at e'; cases e'; exact Nat.lt_of_lt_of_le hlt HB2.out.size) (K5.out.cell 0) (K6.out.cell 0))
  belowK_t (belowK_b (by simp)) (Below.refl _ _) (fun _ => rfl)
  (fun pre W => (∃ p v, Own.Bld W (w2.heap.size + 1) w2.heap.size p v (chunksL (pre.map (fun q : CutPc => q.1))).data.toList) ∧ Below w2.heap.size w2 W)
  (fun _ _ _ => False)
  (OwnFrom.and (Own.from (fun s A B row hs hg hr => by obtain ⟨p, v, h⟩ := hs; exact ⟨p, v, bld_own h hg hr⟩) _) (ownFrom_below (nR _) (by simp)))
  (fun _ _ _ _ _ h _ _ => h)
  ⟨⟨.pointer none, .slice none 0 0, ⟨.inl rfl, Blk.new _ _ _, ⟨rfl, .inl ⟨rfl, rfl⟩⟩, fun _ => rfl⟩⟩, (Below.refl _ _).alloc (nR _) _⟩
  (fun x => { tmps := #[.agg #[.int .i64 2, .int .i64 n], .slice Az lz cz, .string s, .slice At lt ct, .pointer (some ⟨w.heap.size, 0, none⟩), undef, undef, undef, .string ⟨#[]⟩, .int .i64 0, .func (.func 111) #[] #[.pointer (some ⟨w.heap.size + 1, 0, none⟩), .pointer (some ⟨w.heap.size + 1 + 1, 0, none⟩)], .bool true, .pointer (some ⟨w2.heap.size, 0, none⟩), .string x.1, .pointer (some ⟨w.heap.size, 1, none⟩), .int .i64 n, .bool false, .pointer (some ⟨w.heap.size, 0, none⟩), .int .i64 2, .bool false, undef, undef, undef, undef, undef, undef, undef, undef, undef, undef, undef, undef, undef, .tuple #[.func (.func 111) #[] #[.pointer (some ⟨w.heap.size + 1, 0, none⟩), .pointer (some ⟨w.heap.size + 1 + 1, 0, none⟩)], .bool true], .string s, .slice Az lz cz, .tuple #[.func (.func 111) #[] #[.pointer (some ⟨w.heap.size + 1, 0, none⟩), .pointer (some ⟨w.heap.size + 1 + 1, 0, none⟩)], .bool true], .func (.func 111) #[] #[.pointer (some ⟨w.heap.size + 1, 0, none⟩), .pointer (some ⟨w.heap.size + 1 + 1, 0, none⟩)], .bool true, .bool true, .bool false, .slice At lt ct, .bool false, .func (.func 111) #[] #[.pointer (some ⟨w.heap.size + 1, 0, none⟩), .pointer (some ⟨w.heap.size + 1 + 1, 0, none⟩)], .string x.1, undef, undef, undef, undef, undef, undef, undef, undef, undef, undef, undef], defers := [] }) ?assign ?body ?done ?stop
 case assign =>
  intro y x W K hK
  gi_wp2
  exact hK
 case body =>
  rintro y pre ⟨x, hx⟩ W ⟨⟨p, v, hb⟩, hbel⟩ hlen
  dsimp only
  have HBd := lH hb
  have HBl := lH hbel
  obtain ⟨G, hG⟩ : ∃ G, G = beginB x.size := ⟨_, rfl⟩
  have hGs : G.size ≤ 66 := by rw [hG]; exact beginB_size _ (by omega)
  have HG : Hid (∀ W : World, Calls Tryz.prog 74 #[.int .i64 x.size] W fun e w' => e = .returned (.string G) ∧ Below W.heap.size W w') := fun W => by rw [hG]; exact begin_any _ (by omega) (by omega) W
  obtain ⟨A1, hA1⟩ : ∃ A, A = G ++ x := ⟨_, rfl⟩
  have hA1s : A1.size = G.size + x.size := by rw [hA1, ByteArray.size_append]
  have a1 : ∀ W : World, (Op.stringOp .add G x).run Tryz.prog W = .ok (.string A1) W := fun W => (run_string_add_sum (P := Tryz.prog) (w := W) G x (by omega)).trans (by rw [← hA1])
  obtain ⟨A2, hA2⟩ : ∃ A, A = A1 ++ ⟨#[13, 10]⟩ := ⟨_, rfl⟩
  have hA2s : A2.size = A1.size + 2 := by rw [hA2, ByteArray.size_append]; rfl
  have a2 : ∀ W : World, (Op.stringOp .add A1 ⟨#[13, 10]⟩).run Tryz.prog W = .ok (.string A2) W := fun W => (run_string_add_sum (P := Tryz.prog) (w := W) A1 ⟨#[13, 10]⟩ (by show A1.size + 2 ≤ _; omega)).trans (by rw [← hA2])
  have HN : Hid ((chunksL (pre.map (fun q : CutPc => q.1))).data.toList ++ A2.data.toList = (chunksL ((pre ++ [(⟨x, hx⟩ : CutPc)]).map (fun q : CutPc => q.1))).data.toList) := by
   show _ = _
   rw [List.map_append]
   show _ = (chunksL (pre.map (fun q : CutPc => q.1) ++ [x])).data.toList
   rw [chunksL_snoc, hA2, hA1, hG]
   simp [crlf]
  have hcs := chunksL_size (pre.map (fun q : CutPc => q.1)) (fun q hq => by obtain ⟨u, _, rfl⟩ := List.mem_map.1 hq; exact u.2)
  rw [List.length_map] at hcs
  have HCL : Hid ((chunksL (pre.map (fun q : CutPc => q.1))).data.toList.length + A2.size ≤ 140737488355328) := by
   show _ ≤ _
   have : (chunksL (pre.map (fun q : CutPc => q.1))).data.toList.length = (chunksL (pre.map (fun q : CutPc => q.1))).size := by simp
   omega
  clear hb hbel hG hGs hA1 hA1s hA2 hA2s hcs
  gi_wp2_with fail
  refine ⟨HFN.out _, fun _ => by omega, ?_⟩
  refine (CallsIn.inRound y (HW.out _ _ _ _ _ (HG.out _))).mono ?_
  rintro e' W1 ⟨rfl, hb1⟩
  have hbd1 := HBd.out.touch (Touch.of_below (P := fun _ => False) hb1) id (fun _ _ => id)
  have HK1 := lH (KeepsO (Touch.of_below (P := fun _ => False) hb1) (fun _ _ h => h.elim))
  have HBW1 : Hid (Below w2.heap.size W W1) := hb1.mono HBl.out.size
  have HL1 := lH (HBl.out.trans HBW1.out)
  have HBD1 := lH hbd1
  clear hb1 hbd1
  gi_wp2_with fail
  refine ⟨HFN.out _, fun _ => by omega, ?_⟩
  refine (CallsIn.inRound y (HW.out _ _ _ _ _ (Own.writeString_any HBD1.out (Nat.lt_succ_self _) HBD1.out.blk.lt A2 HCL.out))).mono ?_
  rintro e' W2 ⟨rfl, ⟨p', v', hb2⟩, ht2⟩
  rw [HN.out] at hb2
  have HB3 := lH hb2
  have HBW2 : Hid (Below w2.heap.size W1 W2) := ht2.below (fun k _ h => by rcases h with h | h; exact Nat.le_of_eq h.symm; exact nT (Nat.le_succ _) h.1) HL1.out.size
  have HK2 := lH (KeepsO ht2 (fun i _ h => by
   rcases h with rfl | h
   ·exact ⟨_, _, _, HBD1.out.blk⟩
   ·obtain ⟨_, cs, fz, h⟩ := h; exact ⟨_, _, _, h⟩))
  clear hb2 ht2
  gi_wp2_with fail
  exact ⟨HK1.out.trans HK2.out, HBW1.out.trans HBW2.out, ⟨_, _, HB3.out⟩, HL1.out.trans HBW2.out⟩
 case done =>
  rintro D ys W hD rfl ⟨⟨p, v, hb⟩, hbel⟩ hK
  have HBd := lH hb
  have HBl := lH hbel
  have HK := lH hK
  have HF := lH (HT.out.below (HB2.out.trans (hbel.mono HB2.out.size)))
  obtain ⟨L, hL⟩ : ∃ L, L = lastB l := ⟨_, rfl⟩
  have HLC := lH (last_any (cap := ct) HF.out hlt HLS.out)
  rw [← hL] at HLC
  have hLs : L.size ≤ 2004100 := by
   have h1 := lastA_size l HLS.out l.length (nR _)
   have h2 : l.length = lt := HT.out.1
   rw [List.take_length] at h1
   rw [hL]
   unfold lastB
   rw [ByteArray.size_append]
   show (lastA l).size + 2 ≤ _
   omega
  have hcs := chunksL_size ((cutQ s HSZ.out z lz).map (fun q : CutPc => q.1)) (fun q hq => by obtain ⟨u, _, rfl⟩ := List.mem_map.1 hq; exact u.2)
  rw [List.length_map, cutQ_length] at hcs
  have HCL : Hid ((chunksL ((cutQ s HSZ.out z lz).map (fun q : CutPc => q.1))).data.toList.length + L.size ≤ 140737488355328) := by
   show _ ≤ _
   have : (chunksL ((cutQ s HSZ.out z lz).map (fun q : CutPc => q.1))).data.toList.length = (chunksL ((cutQ s HSZ.out z lz).map (fun q : CutPc => q.1))).size := by simp
   omega
  obtain ⟨R, hR⟩ : ∃ R, R = chunksL (cutP s z lz) ++ L := ⟨_, rfl⟩
  have HR : Hid (R.data.toList = (chunksL ((cutQ s HSZ.out z lz).map (fun q : CutPc => q.1))).data.toList ++ L.data.toList) := by
   show _ = _
   rw [hR, cutQ_val]
   simp
  have hD2 : w2.heap.size + 1 ≤ D := by simpa using hD
  have HRR : Hid (R = chunksL (cutP s z lz) ++ lastB l) := by show R = _; rw [hR, hL]
  have HD2 := lH hD2
  clear hb hbel hK hL hLs hcs hR hD hD2
  gi_wp2_with fail
  refine ⟨HFN.out _, ?_⟩
  refine (HW.out _ _ _ _ _ HLC.out).mono ?_
  rintro e' W1 ⟨rfl, hb1⟩
  have hbd1 := HBd.out.touch (Touch.of_below (P := fun _ => False) hb1) id (fun _ _ => id)
  have HBD1 := lH hbd1
  have HL1 := lH (HBl.out.trans (hb1.mono HBl.out.size))
  have hDlt : D < W.heap.size := (Array.getElem?_eq_some_iff.1 HK.out).1
  have HKD1 : Hid (W1.heap[D]? = some (.deferred (some []))) := (hb1.block D hDlt).trans HK.out
  clear hb1 hbd1 hDlt
  gi_wp2_with fail
  refine ⟨HFN.out _, ?_⟩
  refine (HW.out _ _ _ _ _ (Own.writeString_any HBD1.out (Nat.lt_succ_self _) HBD1.out.blk.lt L HCL.out)).mono ?_
  rintro e' W2 ⟨rfl, ⟨p', v', hb2⟩, ht2⟩
  rw [← HR.out] at hb2
  have HB3 := lH hb2
  have HL2 := lH (HL1.out.trans (ht2.below (fun k _ h => by rcases h with h | h; exact Nat.le_of_eq h.symm; exact nT (Nat.le_succ _) h.1) HL1.out.size))
  have HKD2 : Hid (W2.heap[D]? = some (.deferred (some []))) := (KeepsO ht2 (fun i _ h => by
   rcases h with rfl | h
   ·exact ⟨_, _, _, HBD1.out.blk⟩
   ·obtain ⟨_, cs, fz, h⟩ := h; exact ⟨_, _, _, h⟩)).same D _ HKD1.out rfl
  clear hb2 ht2
  gi_wp2_with fail
  refine ⟨HFN.out _, ?_⟩
  refine (HW.out _ _ _ _ _ (Own.string_any HB3.out (Nat.lt_succ_self _) HB3.out.blk.lt R rfl)).mono ?_
  rintro e' W3 ⟨rfl, hb3, ht3⟩
  have HL3 := lH (HL2.out.trans (ht3.below (fun k _ h => nT (Nat.le_succ _) h.1) HL2.out.size))
  have HKD3 : Hid (W3.heap[D]? = some (.deferred (some []))) := (KeepsO ht3 (fun i _ h => by obtain ⟨_, cs, fz, h⟩ := h; exact ⟨_, _, _, h⟩)).same D _ HKD2.out rfl
  clear hb3 ht3
  gi_wp2_with fail
  refine ⟨by simp, .inl ⟨_, _, rfl, run_takeDeferred HKD3.out, ?_⟩⟩
  refine ⟨.tuple #[.string R, .int .i64 0], by simp [results, Tryz.results40, go_sem], ?_⟩
  have hB3 := HB2.out.trans (HL3.out.mono HB2.out.size)
  exact ⟨by rw [HRR.out], hB3.trans (belowK_b (w := w) (nR _) W3 D _ _ (by have := HB2.out.size; have := HD2.out; omega) HKD3.out rfl rfl)⟩
 case stop =>
  rintro D c pre W _ _ h _
  exact h.elim
theorem body_loop {w : World} {Az At : Option Addr} {lz cz lt ct : Nat} {k n : Int} {z : List Int} {s : ByteArray} {l : List Fld} (hz : Ints w Az lz z) (ht : Fds w At lt l) (hs : s.size ≤ 1000000) (hlz : lz ≤ 1000) (hlt : lt ≤ 1000) (hls : ∀ g ∈ l, g.1.size ≤ 1000 ∧ g.2.size ≤ 1000) (h0 : 0 ≤ n) (h1 : cutF z s.size = some 0) (hk : k = 2) (h2 : badF l = false) : Calls Tryz.prog 40 #[.agg #[.int .i64 k, .int .i64 n], .slice Az lz cz, .string s, .slice At lt ct] w fun o w' => o = .returned (.tuple #[.string (chunksL (cutP s z lz) ++ lastB l), .int .i64 0]) ∧ Below w.heap.size w w' := by
 subst hk
 exact callsIn_wide.1 (body_in Fence.wide 3 (fun _ _ _ _ _ h => callsIn_wide.2 h) (fun _ => trivial) rfl (by decide) (k := 2) hz ht hs hlz hlt hls h0 h1 h2)
theorem body_any {w : World} {Az At : Option Addr} {lz cz lt ct : Nat} {k n : Int} {z : List Int} {s : ByteArray} {l : List Fld} (hz : Ints w Az lz z) (ht : Fds w At lt l) (hs : s.size ≤ 1000000) (hlz : lz ≤ 1000) (hlt : lt ≤ 1000) (hls : ∀ g ∈ l, g.1.size ≤ 1000 ∧ g.2.size ≤ 1000) {R : ByteArray} {e : Int} (hr : bodyRes k n z s l = (R, e)) : Calls Tryz.prog 40 #[.agg #[.int .i64 k, .int .i64 n], .slice Az lz cz, .string s, .slice At lt ct] w fun o w' => o = .returned (.tuple #[.string (R), .int .i64 e]) ∧ Below w.heap.size w w' := by
 have e1 : z.length = lz := hz.1
 have e2 : l.length = lt := ht.1
 unfold bodyRes at hr
 by_cases h0 : n < 0
 ·rw [if_pos h0] at hr
  obtain ⟨rfl, rfl⟩ := Prod.mk.inj hr
  exact body_neg hz ht hs hlz hlt hls h0
 rw [if_neg h0] at hr
 by_cases hk : k = 2
 rotate_left
 ·rw [if_pos hk] at hr
  by_cases hf : fitsB k n s = true ∧ z.length = 0 ∧ l.length = 0
  ·rw [if_pos hf] at hr
   obtain ⟨rfl, rfl⟩ := Prod.mk.inj hr
   exact body_plain_ok hz ht hs hlz hlt hls (by omega) hk (by rw [hf.1, dT (by omega)]; rfl)
  ·rw [if_neg hf] at hr
   obtain ⟨rfl, rfl⟩ := Prod.mk.inj hr
   refine body_plain_no hz ht hs hlz hlt hls (by omega) hk ?_
   cases hff : fitsB k n s
   ·rfl
   ·rw [Bool.true_and, decide_eq_false_iff_not]
    exact fun h => hf ⟨hff, by omega, by omega⟩
 rw [if_neg (by omega)] at hr
 by_cases hc : cutF z s.size = some 0
 rotate_left
 ·rw [if_pos hc] at hr
  obtain ⟨rfl, rfl⟩ := Prod.mk.inj hr
  exact body_cut hz ht hs hlz hlt hls (by omega) hc hk
 rw [if_neg (by rw [hc]; simp)] at hr
 cases hb : badF l
 ·rw [hb, if_neg (by decide)] at hr
  obtain ⟨rfl, rfl⟩ := Prod.mk.inj hr
  rw [e1]
  exact body_loop hz ht hs hlz hlt hls (by omega) hc hk hb
 ·rw [hb, if_pos rfl] at hr
  obtain ⟨rfl, rfl⟩ := Prod.mk.inj hr
  exact body_bad hz ht hs hlz hlt hls (by omega) hc hk hb
end Go.Proofs.YtaojfiegnebbdaaGreatDoor
-- EncRef
namespace Go.Proofs.YtaojfiegnebbdaaGreatDoor
open Go.RowKit
end Go.Proofs.YtaojfiegnebbdaaGreatDoor
-- EncLaw
namespace Go.Proofs.YtaojfiegnebbdaaGreatDoor
open Go.RowKit
end Go.Proofs.YtaojfiegnebbdaaGreatDoor
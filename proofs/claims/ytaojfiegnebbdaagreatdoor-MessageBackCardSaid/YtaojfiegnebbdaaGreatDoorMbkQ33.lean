/- Texts packed for one claim, 33 of 52: HPrint HLives. -/
import Derived.Test.YtaojfiegnebbdaaGreatDoorMbkQ31
import Derived.Test.YtaojfiegnebbdaaGreatDoorMbkQ30
import Derived.Test.YtaojfiegnebbdaaGreatDoorMbkQ32
set_option maxRecDepth 100000
set_option maxHeartbeats 16000000
set_option linter.unusedSimpArgs false
set_option linter.unusedVariables false
-- HPrint
namespace Go.Proofs.YtaojfiegnebbdaaGreatDoor
open Go.RowKit
def printA (o : ByteArray) (l : List Fd) : ByteArray := l.foldl (fun o f => o ++ frow f) o
def printB (m t : ByteArray) (k n : Int) (r : ByteArray) (l : List Fd) : ByteArray := printA (lineB m t k n r ++ crlf) l ++ crlf
theorem printA_snoc (o : ByteArray) (l : List Fd) (f : Fd) : printA o (l ++ [f]) = printA o l ++ frow f := by unfold printA; rw [List.foldl_append]; rfl
theorem printA_size (o : ByteArray) (l : List Fd) (hs : ∀ g ∈ l, g.1.size ≤ 1000 ∧ g.2.size ≤ 1000) (ho : o.size ≤ 4002) : ∀ k, k ≤ l.length → (printA o (l.take k)).size ≤ 4002 + 2004 * k
 | 0, _ => by rw [List.take_zero]; exact ho
 | k + 1, h => by
   have h1 := printA_size o l hs ho k (by omega)
   rw [List.take_succ_eq_append_getElem (by omega), printA_snoc, ByteArray.size_append]
   have h2 := frow_size (l[k]'(by omega))
   have h3 := hs (l[k]'(by omega)) (List.getElem_mem _)
   omega
theorem lineB_size (m t r : ByteArray) (k n : Int) (hm : m.size ≤ 1000) (ht : t.size ≤ 1000) (hr : r.size ≤ 1000) (hn : -9223372036854775808 ≤ n) (hn' : n ≤ 9223372036854775807) : (lineB m t k n r).size ≤ 4000 := by
 unfold lineB
 split
 ·have hp := padB_size n hn hn'
  simp only [ByteArray.size_append, verB_size]
  have : sp1.size = 1 := rfl
  omega
 ·simp only [ByteArray.size_append, verB_size]
  have : sp1.size = 1 := rfl
  omega
structure HpSt (w : World) (R : Array Value) (v : World) (T : ByteArray) : Prop where
 k : Blk v w.heap.size R 34
 u : Below w.heap.size w v
 z : w.heap.size + 2 ≤ v.heap.size
 bd : ∃ p q, Own.Bld v (w.heap.size + 2) (w.heap.size + 1) p q T.data.toList
theorem HpSt.call {w v v' : World} {R : Array Value} {T : ByteArray} (h : HpSt w R v T) (hb : Below v.heap.size v v') : HpSt w R v' T := by
 obtain ⟨p, q, hbd⟩ := h.bd
 exact ⟨h.k.call hb, h.u.trans (hb.mono h.u.size), nT h.z hb.size, p, q, hbd.touch (P := fun _ => False) (Touch.of_below hb) id (fun _ _ => id)⟩
theorem HpSt.alloc_call {w v v' : World} {R : Array Value} {T : ByteArray} {o : Obj} (h : HpSt w R v T) (hb : Below (v.alloc o).heap.size (v.alloc o) v') : HpSt w R v' T := h.call (below_one hb)
theorem pr_touch {w v : World} {R : Array Value} {T : ByteArray} {P : Nat → Prop} {v' : World} (h : HpSt w R v T) (ht : Touch P v v') (hP : ∀ i, P i → i = w.heap.size + 1 ∨ w.heap.size + 2 ≤ i) : Blk v' w.heap.size R 34 ∧ Below w.heap.size w v' ∧ w.heap.size + 2 ≤ v'.heap.size := by
 refine ⟨h.k.touch ht (fun e => by have := hP _ e; omega), h.u.trans (ht.below (fun k _ hp => by have := hP _ hp; omega) h.u.size), nT h.z ht.size⟩
theorem pr_step {w v v' : World} {R : Array Value} {T : ByteArray} {T' : List UInt8} {S : ByteArray} {p q : Value} (h : HpSt w R v T) (ht : Touch (fun i => i = w.heap.size + 1 ∨ Own.Row v (w.heap.size + 2) i) v v') (hb : Own.Bld v' (w.heap.size + 2) (w.heap.size + 1) p q T') (hT : S.data.toList = T') : HpSt w R v' S := by
 subst hT
 obtain ⟨h1, h2, h3⟩ := pr_touch h ht (fun i hi => by
  rcases hi with hi | hi
  ·exact Or.inl hi
  ·exact Or.inr hi.1)
 exact ⟨h1, h2, h3, p, q, hb⟩
theorem pr_last {w v v' : World} {R : Array Value} {T : ByteArray} (h : HpSt w R v T) (ht : Touch (fun i => Own.Row v (w.heap.size + 2) i) v v') : Below w.heap.size w v' := (pr_touch h ht (fun i hi => Or.inr hi.1)).2.1
theorem hprint_any {w : World} {A : Option Addr} {len cap : Nat} {l : List Fd} (m t r : ByteArray) (kk nn : Int) (h : Fds w A len l) (hl : len ≤ 1000) (hs : ∀ g ∈ l, g.1.size ≤ 1000 ∧ g.2.size ≤ 1000) (hm : m.size ≤ 1000) (ht : t.size ≤ 1000) (hr : r.size ≤ 1000) (hn : -9223372036854775808 ≤ nn) (hn' : nn ≤ 9223372036854775807) :
 Calls Tryz.prog 41 #[.agg #[.string m, .string t, .int .i64 kk, .int .i64 nn, .string r, .slice A len cap]] w fun e w' => e = .returned (.string (printB m t kk nn r l)) ∧ Below w.heap.size w w' := by
 have hlen := h.1
 obtain ⟨L, hL⟩ : ∃ L, L = lineB m t kk nn r := ⟨_, rfl⟩
 have hLs : L.size ≤ 4000 := by rw [hL]; exact lineB_size m t r kk nn hm ht hr hn hn'
 obtain ⟨L2, hL2⟩ : ∃ x, x = L ++ ⟨#[13, 10]⟩ := ⟨_, rfl⟩
 have hL2s : L2.size = L.size + 2 := by rw [hL2, ByteArray.size_append]; rfl
 have hadd : ∀ W : World, (Op.stringOp .add L ⟨#[13, 10]⟩).run Tryz.prog W = .ok (.string L2) W := fun W => (run_string_add_sum (P := Tryz.prog) (w := W) L ⟨#[13, 10]⟩ (by show L.size + 2 ≤ _; omega)).trans (by rw [← hL2])
 have HPB : Hid (printB m t kk nn r l = printA L2 l ++ crlf) := by show _ = _; unfold printB; rw [hL2, hL]; rfl
 have HZ := lH (fun k (hk : k ≤ l.length) => printA_size L2 l hs (by omega : L2.size ≤ 4002) k hk)
 have H := lH h
 have HS := lH hs
 have KR := lH (Blk.new w #[.string m, .string t, .int .i64 kk, .int .i64 nn, .string r, .slice A len cap] 34)
 have HLN := lH (fun (W : World) => line_any m t r kk nn (.slice A len cap) (by omega) (by omega) (by omega) hn hn' W)
 rw [← hL] at HLN
 have KB := lH (show Blk ((w.alloc (.cells #[.string m, .string t, .int .i64 kk, .int .i64 nn, .string r, .slice A len cap] 34)).alloc (.cells #[.pointer none, .slice none 0 0] 115)) (w.heap.size + 1) #[.pointer none, .slice none 0 0] 115 from blk_al2 w _ _ _ _)
 have HL2S := lH hL2s
 have HLS := lH hLs
 clear h hs hL hL2 hm ht hr hn hn' hLs hL2s
 go_enter Tryz.func41, Tryz.ntmps41
 go_wp2_with (go_at_call 78; refine (HLN.out _).mono ?_; rintro e0 w0 ⟨rfl, hb0⟩; have HB0 := lH hb0; clear hb0)
 have hbd0 : Own.Bld w0 (w.heap.size + 2) (w.heap.size + 1) (.pointer none) (.slice none 0 0) [] := ⟨Or.inl rfl, KB.out.call HB0.out, ⟨rfl, Or.inl ⟨rfl, rfl⟩⟩, fun _ => rfl⟩
 have hz0 : w.heap.size + 2 ≤ w0.heap.size := by have := HB0.out.size; simp at this; omega
 have hkr0 := (KR.out.alloc (.cells #[.pointer none, .slice none 0 0] 115)).call HB0.out
 have hbl0 := below_two HB0.out
 refine (Own.writeString_any hbd0 (Nat.lt_succ_self _) hz0 L2 (by have h1 := HL2S.out; have h2 := HLS.out; simp; omega)).mono ?_
 rintro e1 w1 ⟨rfl, ⟨p1, v1, hb1⟩, ht1⟩
 have HS1 : Hid (HpSt w #[.string m, .string t, .int .i64 kk, .int .i64 nn, .string r, .slice A len cap] w1 L2) := pr_step (T := ⟨#[]⟩) ⟨hkr0, hbl0, hz0, _, _, hbd0⟩ ht1 hb1 (by simp)
 clear hbd0 hz0 hkr0 hbl0 hb1 ht1
 have x5 : w1.cell? ⟨w.heap.size, 5, none⟩ = some (.slice A len cap) := HS1.out.k.cell 5
 go_wp2_with fail
 clear x5
 go_loopw [14] (fun i wr => ∃ k : Nat, k ≤ len ∧ i = .int .i64 k ∧ HpSt w #[.string m, .string t, .int .i64 kk, .int .i64 nn, .string r, .slice A len cap] wr (printA L2 (l.take k))) (fun i _ => len - (intOf i).toNat)
 case atStart => exact ⟨0, by omega, rfl, HS1.out⟩
 case round =>
  obtain ⟨k, hk, rfl, hst⟩ := hrel
  have HST := lH hst
  have hz := HZ.out k (by omega)
  obtain ⟨O, hO⟩ : ∃ O, O = printA L2 (l.take k) := ⟨_, rfl⟩
  rw [← hO] at hz HST
  clear hst
  by_cases hlt : k < len
  ·obtain ⟨b, off, rfl, hbw, hc⟩ := (H.out.below HST.out.u).2 (by omega)
   obtain ⟨g, hg⟩ : ∃ g, l[k]? = some g := ⟨l[k]'(by omega), List.getElem?_eq_getElem (by omega)⟩
   obtain ⟨c0, c1⟩ := hc k g hg
   have hge : l[k]'(by omega) = g := by
    rw [List.getElem?_eq_getElem (by omega)] at hg
    exact Option.some.inj hg
   have hgs := HS.out g (List.mem_of_getElem? hg)
   obtain ⟨n, v⟩ := g
   obtain ⟨X, hX⟩ : ∃ X, X = flineB n v := ⟨_, rfl⟩
   have hXs : X.size ≤ n.size + v.size + 2 := by rw [hX]; exact flineB_size n v
   have HX : Hid (∀ W : World, Calls Tryz.prog 77 #[.agg #[.string n, .string v]] W fun e w' => e = .returned (.string X) ∧ Below W.heap.size W w') := fun W => fline_at hX (by have := hgs.1; simp only at this; omega) (by have := hgs.2; simp only at this; omega) W
   simp only at c0 c1 hgs
   obtain ⟨P, hP⟩ : ∃ P, P = X ++ ⟨#[13, 10]⟩ := ⟨_, rfl⟩
   have hPs : P.size = X.size + 2 := by rw [hP, ByteArray.size_append]; rfl
   have a1 : ∀ W : World, (Op.stringOp .add X ⟨#[13, 10]⟩).run Tryz.prog W = .ok (.string P) W := fun W => (run_string_add_sum (P := Tryz.prog) (w := W) X ⟨#[13, 10]⟩ (by show X.size + 2 ≤ _; omega)).trans (by rw [← hP])
   have HN : Hid (O ++ P = printA L2 (l.take (k + 1))) := by
    show O ++ P = _
    rw [List.take_succ_eq_append_getElem (by omega), printA_snoc, hP, hO, hX, hge]; rfl
   have HLEN : Hid (O.data.toList.length + P.size ≤ 140737488355328) := by show _ ≤ _; rw [← Lib.size_eq]; omega
   have hki : (k : Int) < len := by omega
   clear hc hO hz hX hXs hP hPs hg hge hgs hbw
   go_wp2_with (first | (go_at_call 77; refine (HX.out _).mono ?_; rintro e' w2 ⟨rfl, hb⟩; have HS2 := lH (HST.out.alloc_call hb); clear hb c0 c1) | (go_at_call 73; obtain ⟨pp, vv, hbb⟩ := HS2.out.bd; refine (Own.writeString_any hbb (Nat.lt_succ_self _) HS2.out.z P HLEN.out).mono ?_; rintro e3 w3 ⟨rfl, ⟨p3, v3, hb3⟩, ht3⟩; have HS3 := lH (pr_step (S := O ++ P) HS2.out ht3 hb3 (by simp)); clear hb3 ht3 hbb))
   go_roundw
   case rel => exact ⟨k + 1, by omega, by go_num, by rw [← HN.out]; exact HS3.out⟩
   case measure => simp [intOf]; omega
  ·obtain rfl : k = len := by omega
   have HR : Hid (printB m t kk nn r l = O ++ ⟨#[13, 10]⟩) := by show _ = _; rw [HPB.out, hO, List.take_of_length_le (by omega)]; rfl
   have HLEN : Hid (O.data.toList.length + (⟨#[13, 10]⟩ : ByteArray).size ≤ 140737488355328) := by show _ + 2 ≤ _; rw [← Lib.size_eq]; omega
   clear hO hz
   go_wp2_with (first | (go_at_call 73; obtain ⟨pp, vv, hbb⟩ := HST.out.bd; refine (Own.writeString_any hbb (Nat.lt_succ_self _) HST.out.z ⟨#[13, 10]⟩ HLEN.out).mono ?_; rintro e3 w3 ⟨rfl, ⟨p3, v3, hb3⟩, ht3⟩; have HS3 := lH (pr_step (S := O ++ ⟨#[13, 10]⟩) HST.out ht3 hb3 (by simp)); clear hb3 ht3 hbb) | (go_at_call 76; obtain ⟨pp, vv, hbb⟩ := HS3.out.bd; refine (Own.string_any hbb (Nat.lt_succ_self _) HS3.out.z _ rfl).mono ?_; rintro e4 w4 ⟨rfl, _, ht4⟩; have HU4 := lH (pr_last HS3.out ht4); clear ht4 hbb))
   go_ret
   rw [HR.out]
   exact ⟨rfl, HU4.out⟩
end Go.Proofs.YtaojfiegnebbdaaGreatDoor
-- HLives
namespace Go.Proofs.YtaojfiegnebbdaaGreatDoor
open Go.RowKit
end Go.Proofs.YtaojfiegnebbdaaGreatDoor
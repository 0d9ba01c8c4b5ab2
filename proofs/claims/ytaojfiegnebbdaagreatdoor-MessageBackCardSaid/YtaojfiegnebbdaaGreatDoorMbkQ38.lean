/- Texts packed for one claim, 38 of 52: Cuts CutsIt. -/
import Derived.Test.YtaojfiegnebbdaaGreatDoorMbkQ30
import Derived.RangeFuncBox
import Derived.RangeFuncLeaves
import Derived.RangeFuncFrom
import Derived.Shelf.Abstract
import Derived.OwnWalkIn
import Derived.TacticsInMore
import Derived.LoopNIn
import Derived.LoopIn
set_option maxRecDepth 100000
set_option maxHeartbeats 16000000
set_option linter.unusedSimpArgs false
set_option linter.unusedVariables false
-- Cuts
namespace Go.Proofs.YtaojfiegnebbdaaGreatDoor
open Go.RowKit
def Ints (w : World) (A : Option Addr) (len : Nat) (l : List Int) : Prop :=
 l.length = len ∧ (0 < len → ∃ b off, A = some ⟨b, off, none⟩ ∧ b < w.heap.size ∧ ∀ (i : Nat) (n : Int), l[i]? = some n → w.cell? ⟨b, off + i, none⟩ = some (.int .i64 n) ∧ -9223372036854775808 ≤ n ∧ n ≤ 9223372036854775807)
theorem Ints.below {w w' : World} {A : Option Addr} {len : Nat} {l : List Int} (h : Ints w A len l) (hb : Below w.heap.size w w') : Ints w' A len l := by
 refine ⟨h.1, fun h0 => ?_⟩
 obtain ⟨b, off, e, hlt, hc⟩ := h.2 h0
 refine ⟨b, off, e, Nat.lt_of_lt_of_le hlt hb.size, fun i g hg => ?_⟩
 rw [hb.cell (p := ⟨b, off + i, none⟩) hlt]
 exact hc i g hg
def cutF : List Int → Int → Option Int
 | [], left => some left
 | n :: l, left => if n < 1 ∨ left < n then none else cutF l (left - n)
theorem cutF_append : ∀ (l m : List Int) (x : Int), cutF (l ++ m) x = (cutF l x).bind (cutF m)
 | [], _, _ => rfl
 | n :: l, m, x => by
   rw [List.cons_append, cutF, cutF]
   split
   ·rfl
   ·exact cutF_append l m _
def offK (l : List Int) (k : Nat) : Nat := ((l.take k).map Int.toNat).sum
theorem offK_zero (l : List Int) : offK l 0 = 0 := by unfold offK; rw [List.take_zero]; rfl
theorem offK_succ (l : List Int) {k : Nat} {n : Int} (h : l[k]? = some n) : offK l (k + 1) = offK l k + n.toNat := by
 have hk : k < l.length := (List.getElem?_eq_some_iff.1 h).1
 unfold offK
 rw [List.take_succ_eq_append_getElem hk, List.map_append, List.sum_append, (List.getElem?_eq_some_iff.1 h).2]
 simp
theorem offK_step (l : List Int) (k : Nat) : offK l k ≤ offK l (k + 1) := by
 by_cases hk : k < l.length
 ·rw [offK_succ l (List.getElem?_eq_getElem hk)]; omega
 ·unfold offK
  rw [List.take_of_length_le (by omega), List.take_of_length_le (by omega)]
  exact nR _
theorem offK_mono (l : List Int) {j : Nat} : ∀ {k : Nat}, j ≤ k → offK l j ≤ offK l k
 | 0, h => by obtain rfl : j = 0 := by omega
              exact nR _
 | k + 1, h => by
   rcases (by omega : j = k + 1 ∨ j ≤ k) with rfl | h1
   ·exact nR _
   ·exact nT (offK_mono l h1) (offK_step l k)
theorem cutF_off {l : List Int} {x y : Int} (h : cutF l x = some y) : (∀ n ∈ l, 1 ≤ n) ∧ y = x - offK l l.length ∧ (0 ≤ x → 0 ≤ y) := by
 induction l generalizing x with
 | nil =>
   simp only [cutF, Option.some.injEq] at h
   refine ⟨by simp, ?_, by omega⟩
   rw [List.length_nil, offK_zero]; omega
 | cons n l ih =>
   rw [cutF] at h
   split at h
   ·cases h
   ·rename_i hn
    obtain ⟨h1, h2, h3⟩ := ih h
    refine ⟨?_, ?_, ?_⟩
    ·intro m hm
     rcases List.mem_cons.1 hm with rfl | hm
     ·omega
     ·exact h1 m hm
    ·unfold offK at h2 ⊢
     simp only [List.take_length, List.map_cons, List.sum_cons] at h2 ⊢
     omega
    ·intro hx; exact h3 (by omega)
theorem bytes_whole (s : ByteArray) : s = s.extract 0 s.size := by
 apply ByteArray.ext
 apply Array.toList_inj.1
 rw [Lib.extract_data, List.drop_zero, List.take_of_length_le (by simp)]
def cutP (s : ByteArray) (l : List Int) (k : Nat) : List ByteArray := (List.range k).map fun j => s.extract (offK l j) (offK l (j + 1))
theorem cutP_succ (s : ByteArray) (l : List Int) (k : Nat) : cutP s l (k + 1) = cutP s l k ++ [s.extract (offK l k) (offK l (k + 1))] := by unfold cutP; rw [List.range_succ, List.map_append]; rfl
theorem cutP_length (s : ByteArray) (l : List Int) (k : Nat) : (cutP s l k).length = k := by unfold cutP; simp
def cutV (g : Nat) : Option Int → Value
 | none => .tuple #[.nilFunc, .bool false]
 | some y => .tuple #[.func (.func 111) #[] #[.pointer (some ⟨g, 0, none⟩), .pointer (some ⟨g + 1, 0, none⟩)], .bool (y == 0)]
theorem cuts_any (s : ByteArray) (hs : s.size ≤ 4611686018427387903) {w : World} {A : Option Addr} {len cap : Nat} {l : List Int} (h : Ints w A len l) (hl : len ≤ 4611686018427387903) :
 Calls Tryz.prog 71 #[.string s, .slice A len cap] w fun e w' => e = .returned (cutV w.heap.size (cutF l s.size)) ∧
  w' = (w.alloc (.cells #[.string s] 9)).alloc (.cells #[.slice A len cap] 44) := by
 have hlen := h.1
 have H := lH (h.below ((Below.refl _ _).alloc (nR _) (.cells #[.string s] 9)))
 have H2 := lH (H.out.below ((Below.refl _ _).alloc (nR _) (.cells #[.slice A len cap] 44)))
 clear H h
 have hsi : (s.size : Int) ≤ 4611686018427387903 := by omega
 obtain ⟨W2, hW2⟩ : ∃ W2, W2 = (w.alloc (.cells #[.string s] 9)).alloc (.cells #[.slice A len cap] 44) := ⟨_, rfl⟩
 rw [← hW2] at H2
 have HW := lH hW2
 clear hW2
 go_enter Tryz.func71, Tryz.ntmps71
 go_wp2_with fail
 rw [← HW.out]
 go_loop [13, 6] (fun i v => ∃ (k : Nat) (y : Int), k ≤ len ∧ i = .int .i64 k ∧ v = .int .i64 y ∧ cutF (l.take k) s.size = some y ∧ 0 ≤ y ∧ y ≤ s.size) (fun i _ => len - (intOf i).toNat)
 case atStart => exact ⟨0, s.size, by omega, rfl, rfl, rfl, by omega, by omega⟩
 case round =>
  obtain ⟨k, y, hk, rfl, rfl, hcut, hy0, hy1⟩ := hrel
  have HC := lH hcut
  clear hcut
  by_cases hlt : k < len
  ·obtain ⟨b, off, rfl, hbw, hc⟩ := H2.out.2 (by omega)
   obtain ⟨n, hg⟩ : ∃ n, l[k]? = some n := ⟨l[k]'(by omega), List.getElem?_eq_getElem (by omega)⟩
   obtain ⟨c0, hn1, hn2⟩ := hc k n hg
   have hge : l[k]'(by omega) = n := by
    rw [List.getElem?_eq_getElem (by omega)] at hg
    exact Option.some.inj hg
   have HT : Hid (l.take (k + 1) = l.take k ++ [n]) := by show _ = _; rw [List.take_succ_eq_append_getElem (by omega), hge]
   have HS : Hid (l = l.take (k + 1) ++ l.drop (k + 1)) := (List.take_append_drop _ _).symm
   have hki : (k : Int) < len := by omega
   have hli : (len : Int) ≤ 4611686018427387903 := by omega
   clear hc hg hge hbw
   by_cases hx : n < 1 ∨ y < n
   ·have HN : Hid (cutF l s.size = none) := by
     show cutF l s.size = none
     rw [HS.out, HT.out, cutF_append, cutF_append, HC.out]
     show ((cutF [n] y).bind _) = none
     rw [cutF, if_pos hx]; rfl
    rcases (by omega : n < 1 ∨ (1 ≤ n ∧ y < n)) with hx1 | ⟨hx1, hx2⟩
    ·clear hx
     go_wp2_with fail
     go_ret2
     rw [HN.out]
     exact ⟨rfl, HW.out⟩
    ·have d1 : decide (n < 1) = false := by rw [decide_eq_false_iff_not]; omega
     clear hx
     go_wp2_with fail
     go_ret2
     rw [HN.out]
     exact ⟨rfl, HW.out⟩
   ·have d1 : decide (n < 1) = false := by rw [decide_eq_false_iff_not]; omega
    have d2 : decide (y < n) = false := by rw [decide_eq_false_iff_not]; omega
    have HN : Hid (cutF (l.take (k + 1)) s.size = some (y - n)) := by
     show _ = _
     rw [HT.out, cutF_append, HC.out]
     show cutF [n] y = _
     rw [cutF, if_neg hx]; rfl
    have b1 : 1 ≤ n := by omega
    have b2 : n ≤ y := by omega
    clear hx
    go_wp2_with fail
    go_round
    case rel => exact ⟨k + 1, y - n, by omega, by go_num, rfl, HN.out, by omega, by omega⟩
    case measure => simp [intOf]; omega
  ·obtain rfl : k = len := by omega
   have HN : Hid (cutF l s.size = some y) := by
    have := HC.out
    rw [List.take_of_length_le (by omega)] at this
    exact this
   go_wp2_with fail
   go_ret2
   rw [HN.out]
   exact ⟨rfl, HW.out⟩
end Go.Proofs.YtaojfiegnebbdaaGreatDoor
-- CutsIt
namespace Go.Proofs.YtaojfiegnebbdaaGreatDoor
open Go.RowKit Go.Shelf
attribute [local go_sem] Oper.semAt_some
abbrev CutPc := { x : ByteArray // x.size ≤ 1000000 }
def cutQ (s : ByteArray) (hs : s.size ≤ 1000000) (l : List Int) (k : Nat) : List CutPc := (List.range k).map fun j => ⟨s.extract (offK l j) (offK l (j + 1)), by simp; omega⟩
theorem cutQ_succ (s : ByteArray) (hs : s.size ≤ 1000000) (l : List Int) (k : Nat) : cutQ s hs l (k + 1) = cutQ s hs l k ++ [⟨s.extract (offK l k) (offK l (k + 1)), by simp; omega⟩] := by unfold cutQ; rw [List.range_succ, List.map_append]; rfl
theorem cutQ_length (s : ByteArray) (hs : s.size ≤ 1000000) (l : List Int) (k : Nat) : (cutQ s hs l k).length = k := by unfold cutQ; simp
theorem cutQ_val (s : ByteArray) (hs : s.size ≤ 1000000) (l : List Int) (k : Nat) : (cutQ s hs l k).map (·.1) = cutP s l k := by unfold cutQ cutP; rw [List.map_map]; rfl
theorem cuts1_in (F : Fence) (n : Nat) (h91 : F.fn 111) (hro : F.round = none) (hn : 1 ≤ n) (y n₀ g : Nat) (s : ByteArray) (hs : s.size ≤ 1000000) (A : Option Addr) (len cap : Nat) (l : List Int) (hl : len ≤ 4611686018427387903)
 (hpos : ∀ n ∈ l, 1 ≤ n) (hoff : offK l len ≤ s.size) (J Jx : List CutPc → World → Prop)
 (hY : ∀ pre x W, J pre W → pre.length < len → YieldAt F (n - 1) Tryz.prog y #[.string x.1] W fun e W' =>
  (e = .returned (.bool true) ∧ J (pre ++ [x]) W' ∧ Below n₀ W W') ∨ (e = .returned (.bool false) ∧ Jx (pre ++ [x]) W'))
 (W : World) (hn₀ : n₀ ≤ W.heap.size) (hA : Ints W A len l) (hb : 0 < len → ∀ b off, A = some ⟨b, off, none⟩ → b < n₀) (h1 : W.cell? ⟨g, 0, none⟩ = some (.string s)) (h2 : W.cell? ⟨g + 1, 0, none⟩ = some (.slice A len cap)) (h0 : J [] W) :
 CallsIn F n Tryz.prog 111 #[.func (.yield y) #[] #[], .pointer (some ⟨g, 0, none⟩), .pointer (some ⟨g + 1, 0, none⟩)] W fun e W' => (∃ v, e = .returned v) ∧
  ((∃ ys, ys = cutQ s hs l len ∧ J ys W') ∨ (∃ pre, (∃ k, k ≤ len ∧ pre = cutQ s hs l k) ∧ Jx pre W')) := by
 have hlen := hA.1
 have H := lH hA
 have HB := lH hb
 have HP := lH hpos
 have HN := lH hn₀
 have HY := lH hY
 have H0 := lH h0
 have hsi : (s.size : Int) ≤ 1000000 := by omega
 clear hA hb hpos hn₀ hY h0
 refine callsIn_of_wp Tryz.func111 rfl h91 ?_ hro
 simp only [Tryz.ntmps111, List.size_toArray, List.length_cons, List.length_nil, Nat.reduceAdd, Nat.reduceSub, Array.replicate_succ, Array.replicate_zero, List.push_toArray, List.append_toArray, List.nil_append, List.cons_append]
 gi_wp2
 gi_loopw [10, 4] (fun i v wr => ∃ k : Nat, k ≤ len ∧ i = .int .i64 k ∧ v = .string (s.extract (offK l k) s.size) ∧ J (cutQ s hs l k) wr ∧ Below n₀ W wr)
  (fun i _ _ => len - (intOf i).toNat)
 case atStart => exact ⟨0, Nat.zero_le _, rfl, by rw [offK_zero]; congr 1; exact bytes_whole s, H0.out, Below.refl _ _⟩
 case round =>
  obtain ⟨k, hk, rfl, rfl, hJs, hnx⟩ := hrel
  have HJ := lH hJs
  have HX := lH hnx
  clear hJs hnx
  by_cases hlt : k < len
  ·obtain ⟨b, off, rfl, hbw, hc⟩ := H.out.2 (by omega)
   obtain ⟨m, hg⟩ : ∃ m, l[k]? = some m := ⟨l[k]'(by omega), List.getElem?_eq_getElem (by omega)⟩
   obtain ⟨c0, hm1, hm2⟩ := hc k m hg
   have c1 : wr.cell? ⟨b, off + k, none⟩ = some (.int .i64 m) := (HX.out.cell (p := ⟨b, off + k, none⟩) (HB.out (by omega) b off rfl)).trans c0
   have hmp := HP.out m (List.mem_of_getElem? hg)
   have ho := offK_succ l hg
   have ho2 := offK_mono l (j := k + 1) (k := len) (by omega)
   obtain ⟨R, hR⟩ : ∃ R, R = s.extract (offK l k) s.size := ⟨_, rfl⟩
   have hRs : R.size = s.size - offK l k := by rw [hR]; simp
   have s1 : ∀ W : World, (Instr.slice 9 (.string R) none (some (.int .i64 m)) none).run Tryz.prog W = .ok (.string (s.extract (offK l k) (offK l (k + 1)))) W := fun W => by
    rw [run_slice_string_h W 9 R Tryz.underlying9 .i64 m (by omega) (by omega), hR, ByteArray.extract_extract]
    congr 3
    omega
   have s2 : ∀ W : World, (Instr.slice 9 (.string R) (some (.int .i64 m)) none none).run Tryz.prog W = .ok (.string (s.extract (offK l (k + 1)) s.size)) W := fun W => by
    rw [run_slice_string_l W 9 R Tryz.underlying9 .i64 m (by omega) (by omega), hRs, hR, ByteArray.extract_extract]
    congr 3 <;> omega
   rw [← hR]
   obtain ⟨Y, hX1, hX2⟩ : ∃ Y : CutPc, cutQ s hs l k ++ [Y] = cutQ s hs l (k + 1) ∧ s.extract (offK l k) (offK l (k + 1)) = Y.1 := ⟨⟨_, by simp; omega⟩, (cutQ_succ s hs l k).symm, rfl⟩
   rw [hX2] at s1
   obtain ⟨fn, tmps, assign, body, hy, hRr⟩ := HY.out _ Y wr HJ.out (by rw [cutQ_length]; exact hlt)
   have HX2 := lH hX1
   have HRr := lH hRr
   have hki : (k : Int) < len := by omega
   have hli : (len : Int) ≤ 4611686018427387903 := by omega
   clear hc c0 hg hbw ho ho2 hR hRs hX1 hX2 hRr
   gi_wp2
   refine HRr.out.mono ?_
   rintro e W3 (⟨rfl, hJ3, hk3⟩ | ⟨rfl, hJx3⟩)
   ·have HJ3 := lH hJ3
    have HK3 := lH hk3
    clear hJ3 hk3
    gi_wp2
    go_roundw
    case rel => exact ⟨k + 1, by omega, by go_num, rfl, by rw [← HX2.out]; exact HJ3.out, HX.out.trans HK3.out⟩
    case measure => simp [intOf]; omega
   ·have HJ3 := lH hJx3
    clear hJx3
    gi_wp2
    refine bodyPost_ret (results_none rfl _ _ _) rfl ?_
    exact ⟨⟨_, rfl⟩, .inr ⟨_, ⟨k + 1, by omega, HX2.out⟩, HJ3.out⟩⟩
  ·obtain rfl : k = len := by omega
   gi_wp2
   go_end0
   exact ⟨⟨_, rfl⟩, .inl ⟨_, rfl, HJ.out⟩⟩
theorem cuts_stops (F : Fence) (n : Nat) (h91 : F.fn 111) (hro : F.round = none) (hn : 1 ≤ n) (n₀ g : Nat) (s : ByteArray) (hs : s.size ≤ 1000000) (A : Option Addr) (len cap : Nat) (l : List Int) (hl : len ≤ 4611686018427387903)
 (hpos : ∀ n ∈ l, 1 ≤ n) (hoff : offK l len ≤ s.size) (w : World) (hg : g + 1 < w.heap.size) (hn₀ : n₀ ≤ w.heap.size) (hA : Ints w A len l) (hb : 0 < len → ∀ b off, A = some ⟨b, off, none⟩ → b < n₀) (h1 : w.cell? ⟨g, 0, none⟩ = some (.string s)) (h2 : w.cell? ⟨g + 1, 0, none⟩ = some (.slice A len cap)) :
 SeqStopsK F n Tryz.prog 111 #[.pointer (some ⟨g, 0, none⟩), .pointer (some ⟨g + 1, 0, none⟩)] (fun x : CutPc => #[Value.string x.1]) (Below n₀) (fun ys => ys = cutQ s hs l len) (fun pre => ∃ k, k ≤ len ∧ pre = cutQ s hs l k) len w := fun y J Jx W hW _ _ hY h0 => by
 exact cuts1_in F n h91 hro hn y n₀ g s hs A len cap l hl hpos hoff J Jx hY W (nT hn₀ hW.size) (hA.below hW) hb ((hW.cell (p := ⟨g, 0, none⟩) (by show g < _; omega)).trans h1) ((hW.cell (p := ⟨g + 1, 0, none⟩) hg).trans h2) h0
end Go.Proofs.YtaojfiegnebbdaaGreatDoor
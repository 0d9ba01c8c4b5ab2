/- encode.cuts: a text cut by sizes; the iterator that it hands back. -/
import Derived.Test.YtekbmefdaepgcaaFew
import Derived.RangeFuncBox
import Derived.RangeFuncLeaves
import Derived.RangeFuncFrom
import Derived.Shelf.Abstract
import Derived.OwnWalkIn
import Derived.TacticsInMore
import Derived.LoopNIn
import Derived.LoopIn
namespace Go.Proofs.Ytekbmefdaepgcaa
open Go.RowKit
/-- A slice value's numbers. -/
def Ints (w : World) (A : Option Addr) (len : Nat) (l : List Int) : Prop :=
  l.length = len ∧ (0 < len → ∃ b off, A = some ⟨b, off, none⟩ ∧ b < w.heap.size ∧ ∀ (i : Nat) (n : Int), l[i]? = some n → w.cell? ⟨b, off + i, none⟩ = some (.int .i64 n) ∧ -9223372036854775808 ≤ n ∧ n ≤ 9223372036854775807)
theorem Ints.below {w w' : World} {A : Option Addr} {len : Nat} {l : List Int} (h : Ints w A len l) (hb : Below w.heap.size w w') : Ints w' A len l := by
  refine ⟨h.1, fun h0 => ?_⟩
  obtain ⟨b, off, e, hlt, hc⟩ := h.2 h0
  refine ⟨b, off, e, Nat.lt_of_lt_of_le hlt hb.size, fun i g hg => ?_⟩
  rw [hb.cell (p := ⟨b, off + i, none⟩) hlt]
  exact hc i g hg
/-- What is left when so much is cut off; none: there is not so much. -/
def cutF : List Int → Int → Option Int
  | [], left => some left
  | n :: l, left => if n < 1 ∨ left < n then none else cutF l (left - n)
theorem cutF_append : ∀ (l m : List Int) (x : Int), cutF (l ++ m) x = (cutF l x).bind (cutF m)
  | [], _, _ => rfl
  | n :: l, m, x => by
    rw [List.cons_append, cutF, cutF]
    split
    · rfl
    · exact cutF_append l m _
def offK (l : List Int) (k : Nat) : Nat := ((l.take k).map Int.toNat).sum
theorem offK_zero (l : List Int) : offK l 0 = 0 := by unfold offK; rw [List.take_zero]; rfl
theorem offK_succ (l : List Int) {k : Nat} {n : Int} (h : l[k]? = some n) : offK l (k + 1) = offK l k + n.toNat := by
  have hk : k < l.length := (List.getElem?_eq_some_iff.1 h).1
  unfold offK
  rw [List.take_succ_eq_append_getElem hk, List.map_append, List.sum_append, (List.getElem?_eq_some_iff.1 h).2]
  simp
theorem offK_step (l : List Int) (k : Nat) : offK l k ≤ offK l (k + 1) := by
  by_cases hk : k < l.length
  · rw [offK_succ l (List.getElem?_eq_getElem hk)]; omega
  · unfold offK
    rw [List.take_of_length_le (by omega), List.take_of_length_le (by omega)]
    exact Nat.le_refl _
theorem offK_mono (l : List Int) {j : Nat} : ∀ {k : Nat}, j ≤ k → offK l j ≤ offK l k
  | 0, h => by obtain rfl : j = 0 := by omega
               exact Nat.le_refl _
  | k + 1, h => by
    rcases (by omega : j = k + 1 ∨ j ≤ k) with rfl | h1
    · exact Nat.le_refl _
    · exact Nat.le_trans (offK_mono l h1) (offK_step l k)
theorem cutF_off {l : List Int} {x y : Int} (h : cutF l x = some y) : (∀ n ∈ l, 1 ≤ n) ∧ y = x - offK l l.length ∧ (0 ≤ x → 0 ≤ y) := by
  induction l generalizing x with
  | nil =>
    simp only [cutF, Option.some.injEq] at h
    refine ⟨by simp, ?_, by omega⟩
    rw [List.length_nil, offK_zero]; omega
  | cons n l ih =>
    rw [cutF] at h
    split at h
    · cases h
    · rename_i hn
      obtain ⟨h1, h2, h3⟩ := ih h
      refine ⟨?_, ?_, ?_⟩
      · intro m hm
        rcases List.mem_cons.1 hm with rfl | hm
        · omega
        · exact h1 m hm
      · unfold offK at h2 ⊢
        simp only [List.take_length, List.map_cons, List.sum_cons] at h2 ⊢
        omega
      · intro hx; exact h3 (by omega)
theorem bytes_whole (s : ByteArray) : s = s.extract 0 s.size := by
  apply ByteArray.ext
  apply Array.toList_inj.1
  rw [Lib.extract_data, List.drop_zero, List.take_of_length_le (by simp)]
/-- What has come when k pieces are told. -/
def cutP (s : ByteArray) (l : List Int) (k : Nat) : List ByteArray := (List.range k).map fun j => s.extract (offK l j) (offK l (j + 1))
theorem cutP_succ (s : ByteArray) (l : List Int) (k : Nat) : cutP s l (k + 1) = cutP s l k ++ [s.extract (offK l k) (offK l (k + 1))] := by unfold cutP; rw [List.range_succ, List.map_append]; rfl
theorem cutP_length (s : ByteArray) (l : List Int) (k : Nat) : (cutP s l k).length = k := by unfold cutP; simp
def cutV (g : Nat) : Option Int → Value
  | none => .tuple #[.nilFunc, .bool false]
  | some y => .tuple #[.func (.func 91) #[] #[.pointer (some ⟨g, 0, none⟩), .pointer (some ⟨g + 1, 0, none⟩)], .bool (y == 0)]
set_option maxHeartbeats 4000000 in
/-- cuts: where the sizes fit, the iterator and whether nothing is left; else none. -/
theorem cuts_any (s : ByteArray) (hs : s.size ≤ 4611686018427387903) {w : World} {A : Option Addr} {len cap : Nat} {l : List Int} (h : Ints w A len l) (hl : len ≤ 4611686018427387903) :
    Calls Try.prog 48 #[.string s, .slice A len cap] w fun e w' => e = .returned (cutV w.heap.size (cutF l s.size)) ∧
      w' = (w.alloc (.cells #[.string s] 9)).alloc (.cells #[.slice A len cap] 24) := by
  have hlen := h.1
  have H := Lib.hid (h.below ((Below.refl _ _).alloc (Nat.le_refl _) (.cells #[.string s] 9)))
  have H2 := Lib.hid (H.out.below ((Below.refl _ _).alloc (Nat.le_refl _) (.cells #[.slice A len cap] 24)))
  clear H h
  have hsi : (s.size : Int) ≤ 4611686018427387903 := by omega
  obtain ⟨W2, hW2⟩ : ∃ W2, W2 = (w.alloc (.cells #[.string s] 9)).alloc (.cells #[.slice A len cap] 24) := ⟨_, rfl⟩
  rw [← hW2] at H2
  have HW := Lib.hid hW2
  clear hW2
  go_enter Try.func48, Try.ntmps48
  go_wp2_with fail
  rw [← HW.out]
  go_loop [13, 6] (fun i v => ∃ (k : Nat) (y : Int), k ≤ len ∧ i = .int .i64 k ∧ v = .int .i64 y ∧ cutF (l.take k) s.size = some y ∧ 0 ≤ y ∧ y ≤ s.size) (fun i _ => len - (intOf i).toNat)
  case atStart => exact ⟨0, s.size, by omega, rfl, rfl, rfl, by omega, by omega⟩
  case round =>
    obtain ⟨k, y, hk, rfl, rfl, hcut, hy0, hy1⟩ := hrel
    have HC := Lib.hid hcut
    clear hcut
    by_cases hlt : k < len
    · obtain ⟨b, off, rfl, hbw, hc⟩ := H2.out.2 (by omega)
      obtain ⟨n, hg⟩ : ∃ n, l[k]? = some n := ⟨l[k]'(by omega), List.getElem?_eq_getElem (by omega)⟩
      obtain ⟨c0, hn1, hn2⟩ := hc k n hg
      have hge : l[k]'(by omega) = n := by
        rw [List.getElem?_eq_getElem (by omega)] at hg
        exact Option.some.inj hg
      have HT : Hid (l.take (k + 1) = l.take k ++ [n]) := by show _ = _; rw [List.take_succ_eq_append_getElem (by omega), hge]
      have HS : Hid (l = l.take (k + 1) ++ l.drop (k + 1)) := (List.take_append_drop _ _).symm
      have hki : (k : Int) < len := by omega
      have hli : (len : Int) ≤ 4611686018427387903 := by omega
      clear hc hg hge hbw
      by_cases hx : n < 1 ∨ y < n
      · have HN : Hid (cutF l s.size = none) := by
          show cutF l s.size = none
          rw [HS.out, HT.out, cutF_append, cutF_append, HC.out]
          show ((cutF [n] y).bind _) = none
          rw [cutF, if_pos hx]; rfl
        rcases (by omega : n < 1 ∨ (1 ≤ n ∧ y < n)) with hx1 | ⟨hx1, hx2⟩
        · clear hx
          go_wp2_with fail
          go_ret2
          rw [HN.out]
          exact ⟨rfl, HW.out⟩
        · have d1 : decide (n < 1) = false := by rw [decide_eq_false_iff_not]; omega
          clear hx
          go_wp2_with fail
          go_ret2
          rw [HN.out]
          exact ⟨rfl, HW.out⟩
      · have d1 : decide (n < 1) = false := by rw [decide_eq_false_iff_not]; omega
        have d2 : decide (y < n) = false := by rw [decide_eq_false_iff_not]; omega
        have HN : Hid (cutF (l.take (k + 1)) s.size = some (y - n)) := by
          show _ = _
          rw [HT.out, cutF_append, HC.out]
          show cutF [n] y = _
          rw [cutF, if_neg hx]; rfl
        have b1 : 1 ≤ n := by omega
        have b2 : n ≤ y := by omega
        clear hx
        go_wp2_with fail
        go_round
        case rel => exact ⟨k + 1, y - n, by omega, by go_num, rfl, HN.out, by omega, by omega⟩
        case measure => simp [intOf]; omega
    · obtain rfl : k = len := by omega
      have HN : Hid (cutF l s.size = some y) := by
        have := HC.out
        rw [List.take_of_length_le (by omega)] at this
        exact this
      go_wp2_with fail
      go_ret2
      rw [HN.out]
      exact ⟨rfl, HW.out⟩
end Go.Proofs.Ytekbmefdaepgcaa

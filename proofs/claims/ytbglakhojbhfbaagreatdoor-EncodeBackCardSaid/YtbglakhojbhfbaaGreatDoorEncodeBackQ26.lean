/- Texts packed for one claim, 26 of 49: LsSp. -/
import Derived.Test.YtbglakhojbhfbaaGreatDoorEncodeBackQ25
import Derived.Test.YtbglakhojbhfbaaGreatDoorEncodeBackQ12
import Derived.Test.YtbglakhojbhfbaaGreatDoorEncodeBackQ8
set_option linter.unusedSimpArgs false
set_option linter.unusedVariables false
-- LsSp
namespace Go.Proofs.YtbglakhojbhfbaaGreatDoor
open Go.RowKit Go.Shelf
attribute [local go_sem] Oper.semAt_some
theorem keepsC {P : Nat → Prop} {w w' : World} (t : Touch P w w') (hP : ∀ i, i < w.heap.size → P i → ∃ cs ty fz, w.heap[i]? = some (.cells cs ty fz)) : KeepsOthers w w' :=
  ⟨t.size, fun k o hk ho => by
    have hlt : k < w.heap.size := (Array.getElem?_eq_some_iff.1 hk).1
    by_cases hp : P k
    · obtain ⟨cs, ty, fz, h⟩ := hP k hlt hp
      rw [hk] at h
      injection h with h
      subst h
      cases ho
    · exact (t.block k hlt hp).trans hk⟩
theorem ownS_blk {w : World} {B : Nat} {v : Value} {l : List ByteArray} (h : OwnS w B v l) : ∀ k, v.ownBlock = some k → B ≤ k ∧ ∃ cs, w.heap[k]? = some (.cells cs 9 (0, 0)) := by
  intro k hk
  obtain ⟨_, h2⟩ := h
  rcases h2 with ⟨rfl, _⟩ | ⟨g', cap, cur, rfl, hB, hg, _⟩
  · cases hk
  · have : g' = k := by injection hk
    subst this
    exact ⟨hB, cur, hg⟩
/-- The texts' own rows, from B on. -/
def RowsS (B : Nat) (w : World) (k : Nat) : Prop := B ≤ k ∧ ∃ cs fz, w.heap[k]? = some (.cells cs 9 fz)
theorem ownS_kept {w w1 : World} {B : Nat} {v : Value} {l : List ByteArray} {P : Nat → Prop} (h : OwnS w B v l) (t : Touch P w w1) (hP : ∀ k, B ≤ k → (∃ cs, w.heap[k]? = some (.cells cs 9 (0, 0))) → ¬ P k) : OwnS w1 B v l := by
  have hb := ownS_blk h
  obtain ⟨h1, h2⟩ := h
  refine ⟨h1, ?_⟩
  rcases h2 with h2 | ⟨g, cap, cur, hv, hB, hg, rest⟩
  · exact Or.inl h2
  · exact Or.inr ⟨g, cap, cur, hv, hB, (t.block g ((Array.getElem?_eq_some_iff.1 hg).1) (hP g hB ⟨cur, hg⟩)).trans hg, rest⟩
theorem wpListIn_push_str {F : Fence} {n : Nat} {ops : Array Oper} {rest : List Oper} {o : Oper} {a : Act} {Q : Exit → Act → World → Prop} (hgd : o.guard = none) (s x : Operand)
    (ho : o.op = .call { callee := .builtin .append, args := #[s, x], argTypes := #[72, 72] }) {w : World} {B : Nat} {v : Value} {l : List ByteArray} (hs : a.eval s = v) (hown : OwnS w B v l) (y : ByteArray)
    (hx : a.eval x = .slice (some ⟨w.heap.size, 0, none⟩) 1 1) (hl : l.length ≤ 1000000) (hB : B ≤ w.heap.size)
    (h : ∀ p c w1, OwnS w1 B (.slice p (l.length + 1) c) (l ++ [y]) → Touch (RowsS B w) w w1 → wpListIn F n Tryz.prog ops Q rest (a.put o.dst (.slice p (l.length + 1) c)) w1) :
    wpListIn F n Tryz.prog ops Q (o :: rest) a (w.alloc (.cells #[.string y] 9)) := by
  obtain ⟨i0, hi, hz0, hz1, hz2⟩ := info_parts info_str
  have hbk := ownS_blk hown
  refine wpListIn_append_own _ hgd s x 72 ho B 9 i0 _ 1 16 Tryz.underlying72 hi hz0 hz1 hz2 rfl (by decide) v l.length (l.map Value.string) hs (hown.alloc _) ⟨w.heap.size, 0, none⟩ 1 1 [.string y] hx rfl ?c1 ?c2 ?c3 ?c4 ?c5 ?_
  case c1 => exact World.news_of_block (cs := #[.string y]) (t := 9) (fr := (0, 0)) (heap_alloc_new w _)
  case c2 => simp [Value.oneCell']
  case c3 => unfold maxLen; omega
  case c4 => omega
  case c5 => simp; omega
  intro v' w1 hown1 hg _
  obtain ⟨p', c', rfl⟩ := own_slice hown1
  refine h p' c' w1 ?_ (((Touch.refl _ w).alloc (.cells #[.string y] 9)).trans ⟨hg.os, hg.tape, hg.output, hg.size, fun k hk hne => hg.block k hk (fun e => ?_)⟩)
  · show w1.ownsRow B 9 1 _ (l ++ [y]).length ((l ++ [y]).map Value.string)
    rw [List.length_append, List.map_append]
    exact hown1
  · obtain ⟨h1, cs, h2⟩ := hbk k e.symm
    exact hne ⟨h1, cs, _, h2⟩
theorem someL_append (a b : List (List UInt8)) : someL (a ++ b) = someL a ++ someL b := by unfold someL; rw [List.map_append, List.filter_append]
theorem someL_one (x : ByteArray) : someL [x.data.toList] = if (trimB x).toList.isEmpty = true then [] else [trimB x] := by
  unfold someL
  show ([trimB x] : List ByteArray).filter (fun e => !e.toList.isEmpty) = _
  cases h : (trimB x).toList.isEmpty <;> simp [h]
theorem someL_len (l : List (List UInt8)) : (someL l).length ≤ l.length := by
  unfold someL
  refine Nat.le_trans (List.length_filter_le _ _) ?_
  rw [List.length_map]
  exact Nat.le_refl _
/-- What the loop holds: its row of texts. -/
def SpI (w : World) (b B : Nat) (pre : List Tx) (W : World) : Prop := (∃ v, Blk W b #[v] 72 ∧ OwnS W B v (someL (pre.map pcL))) ∧ Below w.heap.size w W ∧ B ≤ W.heap.size
end Go.Proofs.YtbglakhojbhfbaaGreatDoor

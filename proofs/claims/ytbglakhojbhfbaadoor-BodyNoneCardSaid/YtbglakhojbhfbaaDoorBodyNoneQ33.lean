/- Texts packed for one claim, 33 of 37: HHead. -/
import Derived.Test.YtbglakhojbhfbaaDoorBodyNoneQ22
import Derived.Lib.LazyBuf
set_option linter.unusedSimpArgs false
set_option linter.unusedVariables false
-- HHead
namespace Go.Proofs.YtbglakhojbhfbaaDoor
open Go.RowKit
theorem flat_one (l : List Fd) : ∀ u ∈ flat l, u.oneCell' = true := by
  intro u hu
  unfold flat at hu
  obtain ⟨f, _, hf⟩ := List.mem_flatMap.1 hu
  simp at hf
  rcases hf with rfl | rfl <;> rfl
set_option maxRecDepth 100000 in
theorem clone_any (v : Value) (l : List Fd) (w : World) (h : Flds w v l) (hl : l.length ≤ 1000000) :
    Calls Tryd.prog 15 #[v] w fun e w' => ∃ p c, e = .returned (.slice p l.length c) ∧ OwnF w' w.heap.size (.slice p l.length c) l ∧ Below w.heap.size w w' := by
  obtain ⟨p, c, rfl, hc⟩ := h
  have q27 : ∀ (W : World) (a : Option Addr) (n c : Nat), (binOp .eql 31 (.slice a n c) (.slice none 0 0)).run Tryd.prog W = .ok (.bool a.isNone) W := fun W a n c => Lib.run_eql_slice_nil W _ _ a n c 0 0 Tryd.underlying31
  cases p with
  | none =>
    have h0 : l = [] := by
      cases l with
      | nil => rfl
      | cons x r =>
        obtain ⟨b, off, hp, _⟩ := hc 0 (by simp)
        cases hp
    subst h0
    clear hc
    go_enter Tryd.func15, Tryd.ntmps15
    go_wp2_with fail
    go_ret
    exact ⟨none, 0, rfl, OwnF.start _ _, Below.refl _ _⟩
  | some ad =>
    have hnews : ∀ j u, (flat l)[j]? = some u → (w.alloc (.cells #[] 46)).cell? (ad.add j) = some u := by
      intro j u hj
      have hlj : j < (flat l).length := by
        rcases Nat.lt_or_ge j (flat l).length with h | h
        · exact h
        · rw [List.getElem?_eq_none h] at hj
          cases hj
      have hfl : (flat l).length = l.length * 2 := flat_length l
      have hk : j / 2 < l.length := by omega
      obtain ⟨b, off, hp, c1, c2⟩ := hc (j / 2) hk
      injection hp with hp
      subst hp
      have hadd : (⟨b, off, none⟩ : Addr).add j = ⟨b, off + j, none⟩ := by unfold Addr.add; split <;> simp_all
      rw [hadd]
      have hw : ∀ q x, w.cell? q = some x → (w.alloc (.cells #[] 46)).cell? q = some x := fun q x hq => touch_cell (P := fun _ => False) ((Touch.refl _ w).alloc _) id hq
      refine hw _ _ ?_
      have hat := flat_at l (j / 2) hk
      rcases Nat.mod_two_eq_zero_or_one j with hm | hm
      · have e : j = 2 * (j / 2) := by omega
        rw [← e] at hat c1
        rw [c1, ← hj, hat.1]
      · have e : j = 2 * (j / 2) + 1 := by omega
        have e2 : off + 2 * (j / 2) + 1 = off + j := by omega
        rw [← e] at hat
        rw [e2] at c2
        rw [c2, ← hj, hat.2]
    have HC := Lib.hid hnews
    have HL := Lib.hid hl
    clear hc hnews hl
    obtain ⟨i0, hi, hz0, hz1, hz2⟩ := info_parts info_field
    go_enter Tryd.func15, Tryd.ntmps15
    go_wp2_with (at_builtin; refine wpList_append_own _ rfl _ _ 31 rfl w.heap.size 46 i0 _ 2 32 Tryd.underlying31 hi hz0 hz1 hz2 rfl (by decide) _ _ _ rfl (OwnF.empty w) ad l.length c (flat l) rfl ?c1 HC.out ?c2 ?c3 ?c4 ?c5 ?_)
    case c1 => exact flat_length l
    case c2 => exact flat_one l
    case c3 => have := HL.out; unfold maxLen; simp; omega
    case c4 => have := HL.out; simp; omega
    case c5 => simp
    intro v' w1 hown1 hg _
    have hown2 : World.ownsRow w1 w.heap.size 46 2 v' l.length (flat l) := by
      have h := hown1
      rw [show flat [] = [] from rfl] at h
      simpa using h
    obtain ⟨p', c', rfl⟩ := own_slice hown2
    go_wp2_with fail
    go_ret
    exact ⟨p', c', rfl, hown2, ((Below.refl _ w).alloc (Nat.le_refl _) _).grown hg (by simp) (fun k hk => by simp [Value.ownBlock] at hk; omega)⟩
/-- The head that a parser tells. -/
def doneH (p : PaS) : Hd := if (p.fin && p.e == 0) = true then p.hd else hd0
end Go.Proofs.YtbglakhojbhfbaaDoor

/- The reference's All. -/
import Derived.Test.YtcgjpkkhebpdfaaDoorFieldAll
set_option linter.unusedSimpArgs false
set_option linter.unusedVariables false
namespace Go.Proofs.YtcgjpkkhebpdfaaDoor
open Go.RowKit
theorem OwnF.empty (w : World) : OwnF (w.alloc (.cells #[] 48)) w.heap.size (.slice (some ⟨w.heap.size, 0, none⟩) 0 0) [] := World.ownsRow_lit w #[] 0 (Nat.le_refl _) (by decide) rfl
/-- One field more behind the row. -/
theorem wpList_push_fld {ops : Array Oper} {rest : List Oper} {o : Oper} {a : Act} {Q : Exit → Act → World → Prop} (hgd : o.guard = none) (s x : Operand)
    (ho : o.op = .call { callee := .builtin .append, args := #[s, x], argTypes := #[32, 32] }) {w : World} {B : Nat} {v : Value} {l : List Fd} (hs : a.eval s = v) (hown : OwnF w B v l) (y1 y2 : ByteArray)
    (H : Nat) (hH : w.heap.size = H) (hx : a.eval x = .slice (some ⟨H, 0, none⟩) 1 1) (hl : l.length ≤ 1000000) (hB : B ≤ w.heap.size)
    (h : ∀ p c w1, OwnF w1 B (.slice p (l.length + 1) c) (l ++ [(y1, y2)]) → (w.alloc (.cells #[.string y1, .string y2] 48)).grownBy w1 v.ownBlock → Below B w w1 → wpList Tryd.prog ops Q rest (a.put o.dst (.slice p (l.length + 1) c)) w1) :
    wpList Tryd.prog ops Q (o :: rest) a (w.alloc (.cells #[.string y1, .string y2] 48)) := by
  subst hH
  obtain ⟨i0, hi, hz0, hz1, hz2⟩ := info_parts info_field
  have hown' : World.ownsRow (w.alloc (.cells #[.string y1, .string y2] 48)) B 48 2 v l.length (flat l) := World.ownsRow.alloc hown _
  have hlo := hown'.lt
  refine wpList_append_own _ hgd s x 32 ho B 48 i0 _ 2 32 Tryd.underlying32 hi hz0 hz1 hz2 rfl (by decide) v l.length (flat l) hs hown' ⟨w.heap.size, 0, none⟩ 1 1 [.string y1, .string y2] hx rfl ?c1 ?c2 ?c3 ?c4 ?c5 ?_
  case c1 => exact World.news_of_block (cs := #[.string y1, .string y2]) (t := 48) (fr := (0, 0)) (heap_alloc_new w _)
  case c2 => simp [Value.oneCell']
  case c3 => unfold maxLen; omega
  case c4 => omega
  case c5 => simp; omega
  intro v' w1 hown1 hg _
  obtain ⟨p', c', rfl⟩ := own_slice hown1
  refine h p' c' w1 ?_ hg (((Below.refl _ _).alloc hB _).grown hg (by simp; omega) (fun j hj => by have := (hlo j hj).1; omega))
  show w1.ownsRow B 48 2 _ (l ++ [(y1, y2)]).length (flat (l ++ [(y1, y2)]))
  rw [List.length_append, flat_append]
  exact hown1
end Go.Proofs.YtcgjpkkhebpdfaaDoor

/- refusal.Head's closure: it puts a field behind all, if its value is not empty. -/
import Derived.Test.YtcgjpkkhebpdfaaGreatDoorFlds
import Derived.Deep.AppendLies
set_option linter.unusedSimpArgs false
set_option linter.unusedVariables false
namespace Go.Proofs.YtcgjpkkhebpdfaaGreatDoor
open Go.RowKit
theorem blk_grown {w w' : World} {row : Option Nat} {g : Nat} {cs : Array Value} {t : TypeId} (h : Blk w g cs t) (hg : w.grownBy w' row) (hne : row ≠ some g) : Blk w' g cs t := (hg.block g h.lt (fun e => hne e.symm)).trans h
theorem info_field : (Tryz.prog.info? 65).map (fun i => (i.zero, i.size, i.bytes)) = some (some (.agg #[.string ⟨#[]⟩, .string ⟨#[]⟩]), 2, 32) := by kernel_rfl
theorem grown_set (w : World) (p : Addr) (v : Value) : w.grownBy (w.setCell p v) (some p.block) := ⟨rfl, rfl, rfl, by simp [World.setCell], fun k _ hne => Below.heap_setCell w p v k (fun e => hne (by rw [e]))⟩
theorem own_slice {w : World} {B : Nat} {e : TypeId} {size : Nat} {v : Value} {n : Nat} {xs : List Value} (h : w.ownsRow B e size v n xs) : ∃ p c, v = .slice p n c := by
  obtain ⟨_, h⟩ := h
  rcases h with ⟨rfl, rfl⟩ | ⟨g, cap, cur, rfl, _⟩
  · exact ⟨_, _, rfl⟩
  · exact ⟨_, _, rfl⟩
theorem own_set {w : World} {B : Nat} {e : TypeId} {size : Nat} {v : Value} {n : Nat} {xs : List Value} (h : w.ownsRow B e size v n xs) {g : Nat} (hg : g < B) (i : Nat) (u : Value) : (w.setCell ⟨g, i, none⟩ u).ownsRow B e size v n xs := by
  refine h.kept (grown_set w ⟨g, i, none⟩ u) ?_
  cases hv : v.ownBlock with
  | none => exact Or.inl rfl
  | some b =>
    right
    have := (h.lt b hv).1
    intro e
    have : b = g := by simpa using e
    omega
/-- A head's six cells, stored one by one. -/
def set6 (w : World) (g : Nat) (a b c d e f : Value) : World := (((((w.setCell ⟨g, 0, none⟩ a).setCell ⟨g, 1, none⟩ b).setCell ⟨g, 2, none⟩ c).setCell ⟨g, 3, none⟩ d).setCell ⟨g, 4, none⟩ e).setCell ⟨g, 5, none⟩ f
theorem blk_set6 {w : World} {g : Nat} {t : TypeId} {x0 x1 x2 x3 x4 x5 : Value} (h : Blk w g #[x0, x1, x2, x3, x4, x5] t) (a b c d e f : Value) : Blk (set6 w g a b c d e f) g #[a, b, c, d, e, f] t := by
  have := (((((h.set 0 a).set 1 b).set 2 c).set 3 d).set 4 e).set 5 f
  simp at this
  exact this
theorem own_set6 {w : World} {B : Nat} {ty : TypeId} {size : Nat} {v : Value} {n : Nat} {xs : List Value} (h : w.ownsRow B ty size v n xs) {g : Nat} (hg : g < B) (a b c d e f : Value) : (set6 w g a b c d e f).ownsRow B ty size v n xs :=
  own_set (own_set (own_set (own_set (own_set (own_set h hg _ _) hg _ _) hg _ _) hg _ _) hg _ _) hg _ _
theorem below_set6 {w w' : World} {B g : Nat} (h : Below B w w') (hg : B ≤ g) (a b c d e f : Value) : Below B w (set6 w' g a b c d e f) :=
  (((((h.setCell hg _).setCell hg _).setCell hg _).setCell hg _).setCell hg _).setCell hg _
end Go.Proofs.YtcgjpkkhebpdfaaGreatDoor

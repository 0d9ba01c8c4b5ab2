/- Texts packed for one claim, 2 of 52: Base Same Held. -/
import Derived.Test.YtaojfiegnebbdaaGreatDoorProg
import Derived.WalkKit
import Derived.WalkSpells
import Derived.WalkLawsBesides
import Derived.Lib.Hide
import Derived.Deep.QuietTactic
import Derived.BigQuiet
import Derived.StillTailTactics
import Derived.Deep.RegionHeld3
import Derived.Deep.LoopGhost
import Derived.Deep.DeepFit
import Derived.Handy
import Derived.PlainAid
import Derived.Outline
set_option maxRecDepth 100000
set_option maxHeartbeats 16000000
set_option linter.unusedSimpArgs false
set_option linter.unusedVariables false
-- Base
namespace Go.Proofs.YtaojfiegnebbdaaGreatDoor
open Go.RowKit
theorem bcell {W w1 : World} (hb : Below W.heap.size W w1) : (∀ b o, b < W.heap.size → w1.cell? ⟨b, o, none⟩ = W.cell? ⟨b, o, none⟩) :=
 fun b o h => hb.cell (p := ⟨b, o, none⟩) h
theorem addr_add (b off i : Nat) : (⟨b, off, none⟩ : Addr).add i = ⟨b, off + i, none⟩ := by
 unfold Addr.add; split <;> simp_all
def Blk (w : World) (g : Nat) (cs : Array Value) (t : TypeId) : Prop := w.heap[g]? = some (.cells cs t (0, 0))
section
variable {w w' : World} {g : Nat} {t : TypeId} {cs : Array Value}
theorem Blk.lt (h : Blk w g cs t) : g < w.heap.size := by
 unfold Blk at h
 rcases Nat.lt_or_ge g w.heap.size with h1 | h1
 ·exact h1
 ·rw [Array.getElem?_eq_none h1] at h; cases h
theorem Blk.cell (h : Blk w g cs t) (i : Nat) : w.cell? ⟨g, i, none⟩ = cs[i]? := by
 unfold Blk at h
 simp [World.cell?, h]
theorem Blk.froz (h : Blk w g cs t) (i : Nat) : w.frozen? ⟨g, i, none⟩ = false := by
 unfold Blk at h
 simp [World.frozen?, h]
theorem Blk.new (w : World) (cs : Array Value) (t : TypeId) : Blk (w.alloc (.cells cs t)) w.heap.size cs t := heap_alloc_new w _
theorem Blk.new' {n : Nat} (h : n = w.heap.size) : Blk (w.alloc (.cells cs t)) n cs t := h ▸ heap_alloc_new w _
theorem Blk.drew (h : Blk w g cs t) : Blk w.drew g cs t := h
theorem Blk.alloc (h : Blk w g cs t) (o : Obj) : Blk (w.alloc o) g cs t := (Below.heap_alloc w o g h.lt).trans h
theorem Blk.set (h : Blk w g cs t) (i : Nat) (u : Value) : Blk (w.setCell ⟨g, i, none⟩ u) g (cs.setIfInBounds i u) t := by
 unfold Blk at h ⊢
 simp [World.setCell, Array.getElem?_modify, h]
theorem Blk.far (h : Blk w g cs t) {p : Addr} (hp : g ≠ p.block) (u : Value) : Blk (w.setCell p u) g cs t := (Below.heap_setCell w p u g hp).trans h
theorem Blk.below {B : Nat} (h : Blk w g cs t) (hb : Below B w w') (hg : g < B) : Blk w' g cs t := (hb.block g hg).trans h
theorem Blk.call (h : Blk w g cs t) (hb : Below w.heap.size w w') : Blk w' g cs t := h.below hb h.lt
end
theorem lH {p : Prop} (h : p) : Hid p := Lib.hid h
theorem lS {α : Type} {l : List α} {i : Nat} {a : α} : l.toArray.setIfInBounds i a = (l.set i a).toArray := by rw [List.setIfInBounds_toArray]
theorem lZ {α : Type} {a b : α} {l : List α} : (a :: l).set 0 b = b :: l := rfl
theorem lC {α : Type} {a b : α} {l : List α} {n : Nat} : (a :: l).set (n + 1) b = a :: l.set n b := rfl
theorem dF {p : Prop} [Decidable p] (h : ¬ p) : decide p = false := decide_eq_false h
theorem dT {p : Prop} [Decidable p] (h : p) : decide p = true := decide_eq_true h
theorem nT {a b c : Nat} (h : a ≤ b) (k : b ≤ c) : a ≤ c := Nat.le_trans h k
theorem nR (n : Nat) : n ≤ n := Nat.le_refl n
theorem bc2 {w : World} {g : Nat} {cs : Array Value} {t : TypeId} (h : Blk w g cs t) (i0 i1 : Nat) : w.cell? ⟨g, i0, none⟩ = cs[i0]? ∧ w.cell? ⟨g, i1, none⟩ = cs[i1]? := ⟨h.cell i0, h.cell i1⟩
theorem bf2 {w : World} {g : Nat} {cs : Array Value} {t : TypeId} (h : Blk w g cs t) (i0 i1 : Nat) : w.frozen? ⟨g, i0, none⟩ = false ∧ w.frozen? ⟨g, i1, none⟩ = false := ⟨h.froz i0, h.froz i1⟩
theorem bc3 {w : World} {g : Nat} {cs : Array Value} {t : TypeId} (h : Blk w g cs t) (i0 i1 i2 : Nat) : w.cell? ⟨g, i0, none⟩ = cs[i0]? ∧ w.cell? ⟨g, i1, none⟩ = cs[i1]? ∧ w.cell? ⟨g, i2, none⟩ = cs[i2]? := ⟨h.cell i0, h.cell i1, h.cell i2⟩
theorem bf3 {w : World} {g : Nat} {cs : Array Value} {t : TypeId} (h : Blk w g cs t) (i0 i1 i2 : Nat) : w.frozen? ⟨g, i0, none⟩ = false ∧ w.frozen? ⟨g, i1, none⟩ = false ∧ w.frozen? ⟨g, i2, none⟩ = false := ⟨h.froz i0, h.froz i1, h.froz i2⟩
theorem bc4 {w : World} {g : Nat} {cs : Array Value} {t : TypeId} (h : Blk w g cs t) (i0 i1 i2 i3 : Nat) : w.cell? ⟨g, i0, none⟩ = cs[i0]? ∧ w.cell? ⟨g, i1, none⟩ = cs[i1]? ∧ w.cell? ⟨g, i2, none⟩ = cs[i2]? ∧ w.cell? ⟨g, i3, none⟩ = cs[i3]? := ⟨h.cell i0, h.cell i1, h.cell i2, h.cell i3⟩
theorem bf4 {w : World} {g : Nat} {cs : Array Value} {t : TypeId} (h : Blk w g cs t) (i0 i1 i2 i3 : Nat) : w.frozen? ⟨g, i0, none⟩ = false ∧ w.frozen? ⟨g, i1, none⟩ = false ∧ w.frozen? ⟨g, i2, none⟩ = false ∧ w.frozen? ⟨g, i3, none⟩ = false := ⟨h.froz i0, h.froz i1, h.froz i2, h.froz i3⟩
theorem bc5 {w : World} {g : Nat} {cs : Array Value} {t : TypeId} (h : Blk w g cs t) (i0 i1 i2 i3 i4 : Nat) : w.cell? ⟨g, i0, none⟩ = cs[i0]? ∧ w.cell? ⟨g, i1, none⟩ = cs[i1]? ∧ w.cell? ⟨g, i2, none⟩ = cs[i2]? ∧ w.cell? ⟨g, i3, none⟩ = cs[i3]? ∧ w.cell? ⟨g, i4, none⟩ = cs[i4]? := ⟨h.cell i0, h.cell i1, h.cell i2, h.cell i3, h.cell i4⟩
theorem bf5 {w : World} {g : Nat} {cs : Array Value} {t : TypeId} (h : Blk w g cs t) (i0 i1 i2 i3 i4 : Nat) : w.frozen? ⟨g, i0, none⟩ = false ∧ w.frozen? ⟨g, i1, none⟩ = false ∧ w.frozen? ⟨g, i2, none⟩ = false ∧ w.frozen? ⟨g, i3, none⟩ = false ∧ w.frozen? ⟨g, i4, none⟩ = false := ⟨h.froz i0, h.froz i1, h.froz i2, h.froz i3, h.froz i4⟩
theorem bc6 {w : World} {g : Nat} {cs : Array Value} {t : TypeId} (h : Blk w g cs t) (i0 i1 i2 i3 i4 i5 : Nat) : w.cell? ⟨g, i0, none⟩ = cs[i0]? ∧ w.cell? ⟨g, i1, none⟩ = cs[i1]? ∧ w.cell? ⟨g, i2, none⟩ = cs[i2]? ∧ w.cell? ⟨g, i3, none⟩ = cs[i3]? ∧ w.cell? ⟨g, i4, none⟩ = cs[i4]? ∧ w.cell? ⟨g, i5, none⟩ = cs[i5]? := ⟨h.cell i0, h.cell i1, h.cell i2, h.cell i3, h.cell i4, h.cell i5⟩
theorem bf6 {w : World} {g : Nat} {cs : Array Value} {t : TypeId} (h : Blk w g cs t) (i0 i1 i2 i3 i4 i5 : Nat) : w.frozen? ⟨g, i0, none⟩ = false ∧ w.frozen? ⟨g, i1, none⟩ = false ∧ w.frozen? ⟨g, i2, none⟩ = false ∧ w.frozen? ⟨g, i3, none⟩ = false ∧ w.frozen? ⟨g, i4, none⟩ = false ∧ w.frozen? ⟨g, i5, none⟩ = false := ⟨h.froz i0, h.froz i1, h.froz i2, h.froz i3, h.froz i4, h.froz i5⟩
theorem bc7 {w : World} {g : Nat} {cs : Array Value} {t : TypeId} (h : Blk w g cs t) (i0 i1 i2 i3 i4 i5 i6 : Nat) : w.cell? ⟨g, i0, none⟩ = cs[i0]? ∧ w.cell? ⟨g, i1, none⟩ = cs[i1]? ∧ w.cell? ⟨g, i2, none⟩ = cs[i2]? ∧ w.cell? ⟨g, i3, none⟩ = cs[i3]? ∧ w.cell? ⟨g, i4, none⟩ = cs[i4]? ∧ w.cell? ⟨g, i5, none⟩ = cs[i5]? ∧ w.cell? ⟨g, i6, none⟩ = cs[i6]? := ⟨h.cell i0, h.cell i1, h.cell i2, h.cell i3, h.cell i4, h.cell i5, h.cell i6⟩
theorem bf7 {w : World} {g : Nat} {cs : Array Value} {t : TypeId} (h : Blk w g cs t) (i0 i1 i2 i3 i4 i5 i6 : Nat) : w.frozen? ⟨g, i0, none⟩ = false ∧ w.frozen? ⟨g, i1, none⟩ = false ∧ w.frozen? ⟨g, i2, none⟩ = false ∧ w.frozen? ⟨g, i3, none⟩ = false ∧ w.frozen? ⟨g, i4, none⟩ = false ∧ w.frozen? ⟨g, i5, none⟩ = false ∧ w.frozen? ⟨g, i6, none⟩ = false := ⟨h.froz i0, h.froz i1, h.froz i2, h.froz i3, h.froz i4, h.froz i5, h.froz i6⟩
theorem bc8 {w : World} {g : Nat} {cs : Array Value} {t : TypeId} (h : Blk w g cs t) (i0 i1 i2 i3 i4 i5 i6 i7 : Nat) : w.cell? ⟨g, i0, none⟩ = cs[i0]? ∧ w.cell? ⟨g, i1, none⟩ = cs[i1]? ∧ w.cell? ⟨g, i2, none⟩ = cs[i2]? ∧ w.cell? ⟨g, i3, none⟩ = cs[i3]? ∧ w.cell? ⟨g, i4, none⟩ = cs[i4]? ∧ w.cell? ⟨g, i5, none⟩ = cs[i5]? ∧ w.cell? ⟨g, i6, none⟩ = cs[i6]? ∧ w.cell? ⟨g, i7, none⟩ = cs[i7]? := ⟨h.cell i0, h.cell i1, h.cell i2, h.cell i3, h.cell i4, h.cell i5, h.cell i6, h.cell i7⟩
theorem bf8 {w : World} {g : Nat} {cs : Array Value} {t : TypeId} (h : Blk w g cs t) (i0 i1 i2 i3 i4 i5 i6 i7 : Nat) : w.frozen? ⟨g, i0, none⟩ = false ∧ w.frozen? ⟨g, i1, none⟩ = false ∧ w.frozen? ⟨g, i2, none⟩ = false ∧ w.frozen? ⟨g, i3, none⟩ = false ∧ w.frozen? ⟨g, i4, none⟩ = false ∧ w.frozen? ⟨g, i5, none⟩ = false ∧ w.frozen? ⟨g, i6, none⟩ = false ∧ w.frozen? ⟨g, i7, none⟩ = false := ⟨h.froz i0, h.froz i1, h.froz i2, h.froz i3, h.froz i4, h.froz i5, h.froz i6, h.froz i7⟩
theorem bc9 {w : World} {g : Nat} {cs : Array Value} {t : TypeId} (h : Blk w g cs t) (i0 i1 i2 i3 i4 i5 i6 i7 i8 : Nat) : w.cell? ⟨g, i0, none⟩ = cs[i0]? ∧ w.cell? ⟨g, i1, none⟩ = cs[i1]? ∧ w.cell? ⟨g, i2, none⟩ = cs[i2]? ∧ w.cell? ⟨g, i3, none⟩ = cs[i3]? ∧ w.cell? ⟨g, i4, none⟩ = cs[i4]? ∧ w.cell? ⟨g, i5, none⟩ = cs[i5]? ∧ w.cell? ⟨g, i6, none⟩ = cs[i6]? ∧ w.cell? ⟨g, i7, none⟩ = cs[i7]? ∧ w.cell? ⟨g, i8, none⟩ = cs[i8]? := ⟨h.cell i0, h.cell i1, h.cell i2, h.cell i3, h.cell i4, h.cell i5, h.cell i6, h.cell i7, h.cell i8⟩
theorem bf9 {w : World} {g : Nat} {cs : Array Value} {t : TypeId} (h : Blk w g cs t) (i0 i1 i2 i3 i4 i5 i6 i7 i8 : Nat) : w.frozen? ⟨g, i0, none⟩ = false ∧ w.frozen? ⟨g, i1, none⟩ = false ∧ w.frozen? ⟨g, i2, none⟩ = false ∧ w.frozen? ⟨g, i3, none⟩ = false ∧ w.frozen? ⟨g, i4, none⟩ = false ∧ w.frozen? ⟨g, i5, none⟩ = false ∧ w.frozen? ⟨g, i6, none⟩ = false ∧ w.frozen? ⟨g, i7, none⟩ = false ∧ w.frozen? ⟨g, i8, none⟩ = false := ⟨h.froz i0, h.froz i1, h.froz i2, h.froz i3, h.froz i4, h.froz i5, h.froz i6, h.froz i7, h.froz i8⟩
theorem bc10 {w : World} {g : Nat} {cs : Array Value} {t : TypeId} (h : Blk w g cs t) (i0 i1 i2 i3 i4 i5 i6 i7 i8 i9 : Nat) : w.cell? ⟨g, i0, none⟩ = cs[i0]? ∧ w.cell? ⟨g, i1, none⟩ = cs[i1]? ∧ w.cell? ⟨g, i2, none⟩ = cs[i2]? ∧ w.cell? ⟨g, i3, none⟩ = cs[i3]? ∧ w.cell? ⟨g, i4, none⟩ = cs[i4]? ∧ w.cell? ⟨g, i5, none⟩ = cs[i5]? ∧ w.cell? ⟨g, i6, none⟩ = cs[i6]? ∧ w.cell? ⟨g, i7, none⟩ = cs[i7]? ∧ w.cell? ⟨g, i8, none⟩ = cs[i8]? ∧ w.cell? ⟨g, i9, none⟩ = cs[i9]? := ⟨h.cell i0, h.cell i1, h.cell i2, h.cell i3, h.cell i4, h.cell i5, h.cell i6, h.cell i7, h.cell i8, h.cell i9⟩
theorem bf10 {w : World} {g : Nat} {cs : Array Value} {t : TypeId} (h : Blk w g cs t) (i0 i1 i2 i3 i4 i5 i6 i7 i8 i9 : Nat) : w.frozen? ⟨g, i0, none⟩ = false ∧ w.frozen? ⟨g, i1, none⟩ = false ∧ w.frozen? ⟨g, i2, none⟩ = false ∧ w.frozen? ⟨g, i3, none⟩ = false ∧ w.frozen? ⟨g, i4, none⟩ = false ∧ w.frozen? ⟨g, i5, none⟩ = false ∧ w.frozen? ⟨g, i6, none⟩ = false ∧ w.frozen? ⟨g, i7, none⟩ = false ∧ w.frozen? ⟨g, i8, none⟩ = false ∧ w.frozen? ⟨g, i9, none⟩ = false := ⟨h.froz i0, h.froz i1, h.froz i2, h.froz i3, h.froz i4, h.froz i5, h.froz i6, h.froz i7, h.froz i8, h.froz i9⟩
theorem bc11 {w : World} {g : Nat} {cs : Array Value} {t : TypeId} (h : Blk w g cs t) (i0 i1 i2 i3 i4 i5 i6 i7 i8 i9 i10 : Nat) : w.cell? ⟨g, i0, none⟩ = cs[i0]? ∧ w.cell? ⟨g, i1, none⟩ = cs[i1]? ∧ w.cell? ⟨g, i2, none⟩ = cs[i2]? ∧ w.cell? ⟨g, i3, none⟩ = cs[i3]? ∧ w.cell? ⟨g, i4, none⟩ = cs[i4]? ∧ w.cell? ⟨g, i5, none⟩ = cs[i5]? ∧ w.cell? ⟨g, i6, none⟩ = cs[i6]? ∧ w.cell? ⟨g, i7, none⟩ = cs[i7]? ∧ w.cell? ⟨g, i8, none⟩ = cs[i8]? ∧ w.cell? ⟨g, i9, none⟩ = cs[i9]? ∧ w.cell? ⟨g, i10, none⟩ = cs[i10]? := ⟨h.cell i0, h.cell i1, h.cell i2, h.cell i3, h.cell i4, h.cell i5, h.cell i6, h.cell i7, h.cell i8, h.cell i9, h.cell i10⟩
theorem bf11 {w : World} {g : Nat} {cs : Array Value} {t : TypeId} (h : Blk w g cs t) (i0 i1 i2 i3 i4 i5 i6 i7 i8 i9 i10 : Nat) : w.frozen? ⟨g, i0, none⟩ = false ∧ w.frozen? ⟨g, i1, none⟩ = false ∧ w.frozen? ⟨g, i2, none⟩ = false ∧ w.frozen? ⟨g, i3, none⟩ = false ∧ w.frozen? ⟨g, i4, none⟩ = false ∧ w.frozen? ⟨g, i5, none⟩ = false ∧ w.frozen? ⟨g, i6, none⟩ = false ∧ w.frozen? ⟨g, i7, none⟩ = false ∧ w.frozen? ⟨g, i8, none⟩ = false ∧ w.frozen? ⟨g, i9, none⟩ = false ∧ w.frozen? ⟨g, i10, none⟩ = false := ⟨h.froz i0, h.froz i1, h.froz i2, h.froz i3, h.froz i4, h.froz i5, h.froz i6, h.froz i7, h.froz i8, h.froz i9, h.froz i10⟩
theorem bc12 {w : World} {g : Nat} {cs : Array Value} {t : TypeId} (h : Blk w g cs t) (i0 i1 i2 i3 i4 i5 i6 i7 i8 i9 i10 i11 : Nat) : w.cell? ⟨g, i0, none⟩ = cs[i0]? ∧ w.cell? ⟨g, i1, none⟩ = cs[i1]? ∧ w.cell? ⟨g, i2, none⟩ = cs[i2]? ∧ w.cell? ⟨g, i3, none⟩ = cs[i3]? ∧ w.cell? ⟨g, i4, none⟩ = cs[i4]? ∧ w.cell? ⟨g, i5, none⟩ = cs[i5]? ∧ w.cell? ⟨g, i6, none⟩ = cs[i6]? ∧ w.cell? ⟨g, i7, none⟩ = cs[i7]? ∧ w.cell? ⟨g, i8, none⟩ = cs[i8]? ∧ w.cell? ⟨g, i9, none⟩ = cs[i9]? ∧ w.cell? ⟨g, i10, none⟩ = cs[i10]? ∧ w.cell? ⟨g, i11, none⟩ = cs[i11]? := ⟨h.cell i0, h.cell i1, h.cell i2, h.cell i3, h.cell i4, h.cell i5, h.cell i6, h.cell i7, h.cell i8, h.cell i9, h.cell i10, h.cell i11⟩
theorem bf12 {w : World} {g : Nat} {cs : Array Value} {t : TypeId} (h : Blk w g cs t) (i0 i1 i2 i3 i4 i5 i6 i7 i8 i9 i10 i11 : Nat) : w.frozen? ⟨g, i0, none⟩ = false ∧ w.frozen? ⟨g, i1, none⟩ = false ∧ w.frozen? ⟨g, i2, none⟩ = false ∧ w.frozen? ⟨g, i3, none⟩ = false ∧ w.frozen? ⟨g, i4, none⟩ = false ∧ w.frozen? ⟨g, i5, none⟩ = false ∧ w.frozen? ⟨g, i6, none⟩ = false ∧ w.frozen? ⟨g, i7, none⟩ = false ∧ w.frozen? ⟨g, i8, none⟩ = false ∧ w.frozen? ⟨g, i9, none⟩ = false ∧ w.frozen? ⟨g, i10, none⟩ = false ∧ w.frozen? ⟨g, i11, none⟩ = false := ⟨h.froz i0, h.froz i1, h.froz i2, h.froz i3, h.froz i4, h.froz i5, h.froz i6, h.froz i7, h.froz i8, h.froz i9, h.froz i10, h.froz i11⟩
theorem bc13 {w : World} {g : Nat} {cs : Array Value} {t : TypeId} (h : Blk w g cs t) (i0 i1 i2 i3 i4 i5 i6 i7 i8 i9 i10 i11 i12 : Nat) : w.cell? ⟨g, i0, none⟩ = cs[i0]? ∧ w.cell? ⟨g, i1, none⟩ = cs[i1]? ∧ w.cell? ⟨g, i2, none⟩ = cs[i2]? ∧ w.cell? ⟨g, i3, none⟩ = cs[i3]? ∧ w.cell? ⟨g, i4, none⟩ = cs[i4]? ∧ w.cell? ⟨g, i5, none⟩ = cs[i5]? ∧ w.cell? ⟨g, i6, none⟩ = cs[i6]? ∧ w.cell? ⟨g, i7, none⟩ = cs[i7]? ∧ w.cell? ⟨g, i8, none⟩ = cs[i8]? ∧ w.cell? ⟨g, i9, none⟩ = cs[i9]? ∧ w.cell? ⟨g, i10, none⟩ = cs[i10]? ∧ w.cell? ⟨g, i11, none⟩ = cs[i11]? ∧ w.cell? ⟨g, i12, none⟩ = cs[i12]? := ⟨h.cell i0, h.cell i1, h.cell i2, h.cell i3, h.cell i4, h.cell i5, h.cell i6, h.cell i7, h.cell i8, h.cell i9, h.cell i10, h.cell i11, h.cell i12⟩
theorem bf13 {w : World} {g : Nat} {cs : Array Value} {t : TypeId} (h : Blk w g cs t) (i0 i1 i2 i3 i4 i5 i6 i7 i8 i9 i10 i11 i12 : Nat) : w.frozen? ⟨g, i0, none⟩ = false ∧ w.frozen? ⟨g, i1, none⟩ = false ∧ w.frozen? ⟨g, i2, none⟩ = false ∧ w.frozen? ⟨g, i3, none⟩ = false ∧ w.frozen? ⟨g, i4, none⟩ = false ∧ w.frozen? ⟨g, i5, none⟩ = false ∧ w.frozen? ⟨g, i6, none⟩ = false ∧ w.frozen? ⟨g, i7, none⟩ = false ∧ w.frozen? ⟨g, i8, none⟩ = false ∧ w.frozen? ⟨g, i9, none⟩ = false ∧ w.frozen? ⟨g, i10, none⟩ = false ∧ w.frozen? ⟨g, i11, none⟩ = false ∧ w.frozen? ⟨g, i12, none⟩ = false := ⟨h.froz i0, h.froz i1, h.froz i2, h.froz i3, h.froz i4, h.froz i5, h.froz i6, h.froz i7, h.froz i8, h.froz i9, h.froz i10, h.froz i11, h.froz i12⟩
theorem bc14 {w : World} {g : Nat} {cs : Array Value} {t : TypeId} (h : Blk w g cs t) (i0 i1 i2 i3 i4 i5 i6 i7 i8 i9 i10 i11 i12 i13 : Nat) : w.cell? ⟨g, i0, none⟩ = cs[i0]? ∧ w.cell? ⟨g, i1, none⟩ = cs[i1]? ∧ w.cell? ⟨g, i2, none⟩ = cs[i2]? ∧ w.cell? ⟨g, i3, none⟩ = cs[i3]? ∧ w.cell? ⟨g, i4, none⟩ = cs[i4]? ∧ w.cell? ⟨g, i5, none⟩ = cs[i5]? ∧ w.cell? ⟨g, i6, none⟩ = cs[i6]? ∧ w.cell? ⟨g, i7, none⟩ = cs[i7]? ∧ w.cell? ⟨g, i8, none⟩ = cs[i8]? ∧ w.cell? ⟨g, i9, none⟩ = cs[i9]? ∧ w.cell? ⟨g, i10, none⟩ = cs[i10]? ∧ w.cell? ⟨g, i11, none⟩ = cs[i11]? ∧ w.cell? ⟨g, i12, none⟩ = cs[i12]? ∧ w.cell? ⟨g, i13, none⟩ = cs[i13]? := ⟨h.cell i0, h.cell i1, h.cell i2, h.cell i3, h.cell i4, h.cell i5, h.cell i6, h.cell i7, h.cell i8, h.cell i9, h.cell i10, h.cell i11, h.cell i12, h.cell i13⟩
theorem bf14 {w : World} {g : Nat} {cs : Array Value} {t : TypeId} (h : Blk w g cs t) (i0 i1 i2 i3 i4 i5 i6 i7 i8 i9 i10 i11 i12 i13 : Nat) : w.frozen? ⟨g, i0, none⟩ = false ∧ w.frozen? ⟨g, i1, none⟩ = false ∧ w.frozen? ⟨g, i2, none⟩ = false ∧ w.frozen? ⟨g, i3, none⟩ = false ∧ w.frozen? ⟨g, i4, none⟩ = false ∧ w.frozen? ⟨g, i5, none⟩ = false ∧ w.frozen? ⟨g, i6, none⟩ = false ∧ w.frozen? ⟨g, i7, none⟩ = false ∧ w.frozen? ⟨g, i8, none⟩ = false ∧ w.frozen? ⟨g, i9, none⟩ = false ∧ w.frozen? ⟨g, i10, none⟩ = false ∧ w.frozen? ⟨g, i11, none⟩ = false ∧ w.frozen? ⟨g, i12, none⟩ = false ∧ w.frozen? ⟨g, i13, none⟩ = false := ⟨h.froz i0, h.froz i1, h.froz i2, h.froz i3, h.froz i4, h.froz i5, h.froz i6, h.froz i7, h.froz i8, h.froz i9, h.froz i10, h.froz i11, h.froz i12, h.froz i13⟩
structure Touch (P : Nat → Prop) (w w' : World) : Prop where
 os : w'.os = w.os
 tape : w'.tape = w.tape
 output : w'.output = w.output
 size : w.heap.size ≤ w'.heap.size
 block : ∀ k, k < w.heap.size → ¬ P k → w'.heap[k]? = w.heap[k]?
section
variable {P Q : Nat → Prop} {w w1 w2 : World} {B g : Nat} {cs : Array Value} {t : TypeId}
theorem Touch.refl (P : Nat → Prop) (w : World) : Touch P w w := ⟨rfl, rfl, rfl, nR _, fun _ _ _ => rfl⟩
theorem Touch.trans (h : Touch P w w1) (k : Touch P w1 w2) : Touch P w w2 :=
 ⟨k.os.trans h.os, k.tape.trans h.tape, k.output.trans h.output, nT h.size k.size, fun i hi hp => (k.block i (Nat.lt_of_lt_of_le hi h.size) hp).trans (h.block i hi hp)⟩
theorem Touch.mono (h : Touch P w w1) (hPQ : ∀ k, k < w.heap.size → P k → Q k) : Touch Q w w1 := ⟨h.os, h.tape, h.output, h.size, fun k hk hq => h.block k hk fun hp => hq (hPQ k hk hp)⟩
theorem Touch.drew (h : Touch P w w1) : Touch P w w1.drew := ⟨h.os, h.tape, h.output, h.size, h.block⟩
theorem Touch.drewN (h : Touch P w w1) (n : Nat) : Touch P w (w1.drewN n) := ⟨h.os, h.tape, h.output, h.size, h.block⟩
theorem Touch.setCell (h : Touch P w w1) {p : Addr} (hp : P p.block) (u : Value) : Touch P w (w1.setCell p u) :=
 h.trans ⟨rfl, rfl, rfl, by simp [World.setCell], fun k _ hk => Below.heap_setCell _ _ _ _ (fun e => hk (e ▸ hp))⟩
theorem Touch.alloc (h : Touch P w w1) (o : Obj) : Touch P w (w1.alloc o) :=
 h.trans ⟨rfl, rfl, rfl, by simp, fun k hk _ => Below.heap_alloc _ _ _ hk⟩
theorem Touch.setRow (h : Touch P w w1) {g : Nat} (hp : P g) (cs : Array Value) : Touch P w (w1.setRow g cs) :=
 h.trans ⟨rfl, rfl, rfl, by simp [World.setRow], fun k _ hk => setRow_other _ _ _ _ (fun e => hk (e ▸ hp))⟩
theorem Touch.below (h : Touch P w w1) (hB : ∀ k, k < w.heap.size → P k → B ≤ k) (hw : B ≤ w.heap.size) : Below B w w1 := ⟨h.os, h.tape, h.output, h.size, fun k hk => h.block k (by omega) fun hp => by have := hB k (by omega) hp; omega⟩
theorem Touch.of_below (h : Below w.heap.size w w1) : Touch P w w1 := ⟨h.os, h.tape, h.output, h.size, fun k hk _ => h.block k hk⟩
theorem Blk.touch (h : Blk w g cs t) (hb : Touch P w w1) (hg : ¬ P g) : Blk w1 g cs t := (hb.block g h.lt hg).trans h
theorem Blk.row (h : Blk w g cs t) (ds : Array Value) : Blk (w.setRow g ds) g ds t := setRow_heap w g cs ds t (0, 0) h
theorem Blk.ne {g' : Nat} {t' : TypeId} {cs' : Array Value} (h : Blk w g cs t) (h' : Blk w g' cs' t') (hne : t ≠ t') : g ≠ g' := by
 rintro rfl
 unfold Blk at h h'
 rw [h] at h'
 injection h' with h'
 injection h' with _ ht
 exact hne ht
theorem Blk.drewN (h : Blk w g cs t) (n : Nat) : Blk (w.drewN n) g cs t := h
end
end Go.Proofs.YtaojfiegnebbdaaGreatDoor
-- Same
namespace Go.Proofs.YtaojfiegnebbdaaGreatDoor
open Go.RowKit
theorem same_any (m t r m' t' r' : ByteArray) (k n k' n' : Int) (f f' : Value) {p1 p2 p3 p4 p5 : Bool} (h1 : (m.toList == m'.toList) = p1) (h2 : (t.toList == t'.toList) = p2) (h3 : (k == k') = p3) (h4 : (n == n') = p4) (h5 : (r.toList == r'.toList) = p5) (w : World) :
 Calls Tryz.prog 34 #[.agg #[.string m, .string t, .int .i64 k, .int .i64 n, .string r, f], .agg #[.string m', .string t', .int .i64 k', .int .i64 n', .string r', f']] w fun e w' => e = .returned (.bool (p1 && (p2 && (p3 && (p4 && p5))))) ∧ Below w.heap.size w w' := by
 have hc : p1 = false ∨ (p1 = true ∧ p2 = false) ∨ (p1 = true ∧ p2 = true ∧ p3 = false) ∨ (p1 = true ∧ p2 = true ∧ p3 = true ∧ p4 = false) ∨ (p1 = true ∧ p2 = true ∧ p3 = true ∧ p4 = true) := by cases p1 <;> cases p2 <;> cases p3 <;> cases p4 <;> simp
 rcases hc with rfl | ⟨rfl, rfl⟩ | ⟨rfl, rfl, rfl⟩ | ⟨rfl, rfl, rfl, rfl⟩ | ⟨rfl, rfl, rfl, rfl⟩
 all_goals
  go_enter Tryz.func34, Tryz.ntmps34
  go_wp2_with fail
  go_ret
  refine ⟨?_, ((Below.refl _ _).alloc (nR _) _).alloc (by simp) _⟩
  first
   | rfl
   | (rw [← h5]; rfl)
end Go.Proofs.YtaojfiegnebbdaaGreatDoor
-- Held
namespace Go
theorem wp_region_at {P : Program} {S : World → Prop} {id : Nat} {ops : Array Oper} {Q : Exit → Act → World → Prop} {a : Act} {w : World} (hm : P.follows .mixedOrders = true) (h : ∀ w1, w1 = w.drew → wpAnyH P .any ops Q S ops.size (Array.replicate ops.size false) a w1) : (Code.region id ops true).wp P Q a w := wp_region_held hm (h _ rfl)
end Go
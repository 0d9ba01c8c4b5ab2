/- Texts packed for one claim, 2 of 49: Base Same Held. -/
import Derived.Test.YtbglakhojbhfbaaGreatDoorProg
import Derived.WalkKit
import Derived.WalkSpells
import Derived.WalkLawsBesides
import Derived.Lib.Hide
import Derived.Deep.QuietTactic
import Derived.BigQuiet
import Derived.StillTailTactics
import Derived.Deep.RegionHeld3
import Derived.Deep.LoopGhost
import Derived.Deep.DeepFit
import Derived.Handy
import Derived.PlainAid
import Derived.Outline
set_option linter.unusedSimpArgs false
set_option linter.unusedVariables false
-- Base
namespace Go.Proofs.YtbglakhojbhfbaaGreatDoor
open Go.RowKit
theorem bcell {W w1 : World} (hb : Below W.heap.size W w1) : (∀ b o, b < W.heap.size → w1.cell? ⟨b, o, none⟩ = W.cell? ⟨b, o, none⟩) :=
  fun b o h => hb.cell (p := ⟨b, o, none⟩) h
theorem bfroz {W w1 : World} (hb : Below W.heap.size W w1) : (∀ b o, b < W.heap.size → w1.frozen? ⟨b, o, none⟩ = W.frozen? ⟨b, o, none⟩) :=
  fun b o h => hb.frozen (p := ⟨b, o, none⟩) h
theorem addr_add (b off i : Nat) : (⟨b, off, none⟩ : Addr).add i = ⟨b, off + i, none⟩ := by
  unfold Addr.add; split <;> simp_all
/-- w' has grown out of w, and below B nothing has turned; B lies within w'. -/
def Up (B : Nat) (w w' : World) : Prop := Below B w w' ∧ B ≤ w'.heap.size
theorem Up.refl {B : Nat} {w : World} (h : B ≤ w.heap.size) : Up B w w := ⟨Below.refl _ _, h⟩
theorem Up.alloc {B : Nat} {a w : World} (h : Up B a w) (o : Obj) : Up B a (w.alloc o) := ⟨h.1.alloc h.2 o, by have := h.2; simp; omega⟩
theorem Up.setCell {B : Nat} {a w : World} (h : Up B a w) {p : Addr} (hp : B ≤ p.block) (u : Value) : Up B a (w.setCell p u) := ⟨h.1.setCell hp u, by have := h.2; simpa using this⟩
theorem Up.drew {B : Nat} {a w : World} (h : Up B a w) : Up B a w.drew := ⟨h.1.drew, h.2⟩
theorem Up.call {B : Nat} {a w w' : World} (h : Up B a w) (hb : Below w.heap.size w w') : Up B a w' := ⟨h.1.trans (hb.mono h.2), Nat.le_trans h.2 hb.size⟩
/-- Block g is just the cells cs, none of them frozen. -/
def Blk (w : World) (g : Nat) (cs : Array Value) (t : TypeId) : Prop := w.heap[g]? = some (.cells cs t (0, 0))
section
variable {w w' : World} {g : Nat} {t : TypeId} {cs : Array Value}
theorem Blk.lt (h : Blk w g cs t) : g < w.heap.size := by
  unfold Blk at h
  rcases Nat.lt_or_ge g w.heap.size with h1 | h1
  · exact h1
  · rw [Array.getElem?_eq_none h1] at h; cases h
theorem Blk.cell (h : Blk w g cs t) (i : Nat) : w.cell? ⟨g, i, none⟩ = cs[i]? := by
  unfold Blk at h
  simp [World.cell?, h]
theorem Blk.froz (h : Blk w g cs t) (i : Nat) : w.frozen? ⟨g, i, none⟩ = false := by
  unfold Blk at h
  simp [World.frozen?, h]
theorem Blk.new (w : World) (cs : Array Value) (t : TypeId) : Blk (w.alloc (.cells cs t)) w.heap.size cs t := heap_alloc_new w _
theorem Blk.new' {n : Nat} (h : n = w.heap.size) : Blk (w.alloc (.cells cs t)) n cs t := h ▸ heap_alloc_new w _
theorem Blk.drew (h : Blk w g cs t) : Blk w.drew g cs t := h
theorem Blk.alloc (h : Blk w g cs t) (o : Obj) : Blk (w.alloc o) g cs t := (Below.heap_alloc w o g h.lt).trans h
theorem Blk.set (h : Blk w g cs t) (i : Nat) (u : Value) : Blk (w.setCell ⟨g, i, none⟩ u) g (cs.setIfInBounds i u) t := by
  unfold Blk at h ⊢
  simp [World.setCell, Array.getElem?_modify, h]
theorem Blk.far (h : Blk w g cs t) {p : Addr} (hp : g ≠ p.block) (u : Value) : Blk (w.setCell p u) g cs t := (Below.heap_setCell w p u g hp).trans h
theorem Blk.below {B : Nat} (h : Blk w g cs t) (hb : Below B w w') (hg : g < B) : Blk w' g cs t := (hb.block g hg).trans h
theorem Blk.call (h : Blk w g cs t) (hb : Below w.heap.size w w') : Blk w' g cs t := h.below hb h.lt
end
/-- w' has grown out of w, and of the old blocks only those of P may have turned. -/
structure Touch (P : Nat → Prop) (w w' : World) : Prop where
  os : w'.os = w.os
  tape : w'.tape = w.tape
  output : w'.output = w.output
  size : w.heap.size ≤ w'.heap.size
  block : ∀ k, k < w.heap.size → ¬ P k → w'.heap[k]? = w.heap[k]?
section
variable {P Q : Nat → Prop} {w w1 w2 : World} {B g : Nat} {cs : Array Value} {t : TypeId}
theorem Touch.refl (P : Nat → Prop) (w : World) : Touch P w w := ⟨rfl, rfl, rfl, Nat.le_refl _, fun _ _ _ => rfl⟩
theorem Touch.trans (h : Touch P w w1) (k : Touch P w1 w2) : Touch P w w2 :=
  ⟨k.os.trans h.os, k.tape.trans h.tape, k.output.trans h.output, Nat.le_trans h.size k.size, fun i hi hp => (k.block i (Nat.lt_of_lt_of_le hi h.size) hp).trans (h.block i hi hp)⟩
theorem Touch.mono (h : Touch P w w1) (hPQ : ∀ k, k < w.heap.size → P k → Q k) : Touch Q w w1 := ⟨h.os, h.tape, h.output, h.size, fun k hk hq => h.block k hk fun hp => hq (hPQ k hk hp)⟩
theorem Touch.drew (h : Touch P w w1) : Touch P w w1.drew := ⟨h.os, h.tape, h.output, h.size, h.block⟩
theorem Touch.drewN (h : Touch P w w1) (n : Nat) : Touch P w (w1.drewN n) := ⟨h.os, h.tape, h.output, h.size, h.block⟩
theorem Touch.setCell (h : Touch P w w1) {p : Addr} (hp : P p.block) (u : Value) : Touch P w (w1.setCell p u) :=
  h.trans ⟨rfl, rfl, rfl, by simp [World.setCell], fun k _ hk => Below.heap_setCell _ _ _ _ (fun e => hk (e ▸ hp))⟩
theorem Touch.alloc (h : Touch P w w1) (o : Obj) : Touch P w (w1.alloc o) :=
  h.trans ⟨rfl, rfl, rfl, by simp, fun k hk _ => Below.heap_alloc _ _ _ hk⟩
theorem Touch.setRow (h : Touch P w w1) {g : Nat} (hp : P g) (cs : Array Value) : Touch P w (w1.setRow g cs) :=
  h.trans ⟨rfl, rfl, rfl, by simp [World.setRow], fun k _ hk => setRow_other _ _ _ _ (fun e => hk (e ▸ hp))⟩
theorem Touch.below (h : Touch P w w1) (hB : ∀ k, k < w.heap.size → P k → B ≤ k) (hw : B ≤ w.heap.size) : Below B w w1 := ⟨h.os, h.tape, h.output, h.size, fun k hk => h.block k (by omega) fun hp => by have := hB k (by omega) hp; omega⟩
theorem Touch.of_below (h : Below w.heap.size w w1) : Touch P w w1 := ⟨h.os, h.tape, h.output, h.size, fun k hk _ => h.block k hk⟩
theorem Blk.touch (h : Blk w g cs t) (hb : Touch P w w1) (hg : ¬ P g) : Blk w1 g cs t := (hb.block g h.lt hg).trans h
theorem Blk.row (h : Blk w g cs t) (ds : Array Value) : Blk (w.setRow g ds) g ds t := setRow_heap w g cs ds t (0, 0) h
theorem Blk.row_far (h : Blk w g cs t) {k : Nat} (hk : g ≠ k) (ds : Array Value) : Blk (w.setRow k ds) g cs t := (setRow_other w k g ds hk).trans h
theorem Blk.ne {g' : Nat} {t' : TypeId} {cs' : Array Value} (h : Blk w g cs t) (h' : Blk w g' cs' t') (hne : t ≠ t') : g ≠ g' := by
  rintro rfl
  unfold Blk at h h'
  rw [h] at h'
  injection h' with h'
  injection h' with _ ht
  exact hne ht
theorem Blk.drewN (h : Blk w g cs t) (n : Nat) : Blk (w.drewN n) g cs t := h
end
end Go.Proofs.YtbglakhojbhfbaaGreatDoor
-- Same
namespace Go.Proofs.YtbglakhojbhfbaaGreatDoor
open Go.RowKit
end Go.Proofs.YtbglakhojbhfbaaGreatDoor
-- Held
namespace Go
/-- What holds between the operations may be known to be more from here on. -/
theorem wpAnyH_grow {P : Program} {md : Region.Mode} {ops : Array Oper} {Q : Exit → Act → World → Prop} {S T : World → Prop} (h : ∀ w, T w → S w) :
    ∀ (fuel : Nat) (listed : Array Bool) (a : Act) (w : World), wpAnyH P md ops Q T fuel listed a w → wpAnyH P md ops Q S fuel listed a w
  | 0, _, _, _, k => k
  | fuel + 1, _, _, _, k => ⟨k.1, fun i hi => wpOp_mono (fun a' w' h' => ⟨h w' h'.1, wpAnyH_grow h fuel _ a' w' h'.2⟩) (k.2 i hi)⟩
theorem wp_region_at {P : Program} {S : World → Prop} {id : Nat} {ops : Array Oper} {Q : Exit → Act → World → Prop} {a : Act} {w : World} (hm : P.follows .mixedOrders = true) (h : ∀ w1, w1 = w.drew → wpAnyH P .any ops Q S ops.size (Array.replicate ops.size false) a w1) : (Code.region id ops true).wp P Q a w := wp_region_held hm (h _ rfl)
end Go

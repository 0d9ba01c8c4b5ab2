/- Texts packed for one claim, 10 of 50: Flds HSame Nums. -/
import Derived.Test.YtaojfiegnebbdaaGreatDoorMprQ2
import Derived.IntWalk
set_option linter.unusedSimpArgs false
set_option linter.unusedVariables false
-- Flds
namespace Go.Proofs.YtaojfiegnebbdaaGreatDoor
open Go.RowKit
abbrev Fd := ByteArray × ByteArray
def Flds (w : World) (v : Value) (l : List Fd) : Prop :=
 ∃ p c, v = .slice p l.length c ∧ ∀ i (h : i < l.length), ∃ b off, p = some ⟨b, off, none⟩ ∧ w.cell? ⟨b, off + 2 * i, none⟩ = some (.string l[i].1) ∧ w.cell? ⟨b, off + 2 * i + 1, none⟩ = some (.string l[i].2)
theorem Flds.below {w w' : World} {v : Value} {l : List Fd} (h : Flds w v l) (hb : Below w.heap.size w w') : Flds w' v l := by
 obtain ⟨p, c, hv, hc⟩ := h
 refine ⟨p, c, hv, fun i hi => ?_⟩
 obtain ⟨b, off, hp, h1, h2⟩ := hc i hi
 have hlt := World.block_lt_of_cell? w _ h1
 exact ⟨b, off, hp, ((bcell hb) b _ hlt).trans h1, ((bcell hb) b _ hlt).trans h2⟩
theorem Flds.nil (w : World) (p : Option Addr) (c : Nat) : Flds w (.slice p 0 c) [] := ⟨p, c, rfl, fun i hi => absurd hi (Nat.not_lt_zero _)⟩
def flat (l : List Fd) : List Value := l.flatMap fun p => [.string p.1, .string p.2]
theorem flat_length (l : List Fd) : (flat l).length = l.length * 2 := by
 induction l with
 | nil => rfl
 | cons a l ih => unfold flat at ih ⊢; rw [List.flatMap_cons, List.length_append, ih]; simp; omega
theorem flat_at (l : List Fd) : ∀ (i : Nat) (h : i < l.length), (flat l)[2 * i]? = some (.string l[i].1) ∧ (flat l)[2 * i + 1]? = some (.string l[i].2) := by
 induction l with
 | nil => intro i h; exact absurd h (Nat.not_lt_zero _)
 | cons a l ih =>
   intro i h
   have e : flat (a :: l) = .string a.1 :: .string a.2 :: flat l := rfl
   rw [e]
   cases i with
   | zero => exact ⟨rfl, rfl⟩
   | succ i =>
     have := ih i (by simpa using h)
     rw [show 2 * (i + 1) = 2 * i + 2 by omega]
     simpa using this
theorem flat_append (l m : List Fd) : flat (l ++ m) = flat l ++ flat m := by unfold flat; rw [List.flatMap_append]
theorem Flds.of_own {w : World} {B : Nat} {v : Value} {l : List Fd} (h : w.ownsRow B 75 2 v l.length (flat l)) : Flds w v l := by
 obtain ⟨_, h⟩ := h
 rcases h with ⟨rfl, h0⟩ | ⟨g, cap, cur, rfl, _, hg, h1, h2, h3, h4⟩
 ·have : l = [] := List.eq_nil_of_length_eq_zero h0
  subst this
  exact Flds.nil _ _ _
 ·refine ⟨_, cap, rfl, fun i hi => ⟨g, 0, rfl, ?_⟩⟩
  obtain ⟨a, b⟩ := flat_at l i hi
  rw [← h4] at a b
  rw [List.getElem?_take, if_pos (by omega)] at a b
  simp only [World.cell?, hg, Nat.zero_add]
  simp only [Array.getElem?_toList] at a b
  exact ⟨a, b⟩
theorem below_drewN (w : World) (n : Nat) : Below w.heap.size w (w.drewN n) := ⟨rfl, rfl, rfl, nR _, fun _ _ => rfl⟩
theorem below_drewM {B : Nat} {a w : World} (h : Below B a w) (n : Nat) : Below B a (w.drewN n) := h.trans ⟨rfl, rfl, rfl, nR _, fun _ _ => rfl⟩
end Go.Proofs.YtaojfiegnebbdaaGreatDoor
-- HSame
namespace Go.Proofs.YtaojfiegnebbdaaGreatDoor
open Go.RowKit
theorem below_two {w w1 : World} {o o' : Obj} (h : Below ((w.alloc o).alloc o').heap.size ((w.alloc o).alloc o') w1) : Below w.heap.size w w1 := (((Below.refl _ _).alloc (nR _) _).alloc (by simp) _).trans (h.mono (by simp; omega))
end Go.Proofs.YtaojfiegnebbdaaGreatDoor
-- Nums
namespace Go.Proofs.YtaojfiegnebbdaaGreatDoor
open Go.RowKit
def Nums (w : World) (v : Value) (l : List Int) : Prop :=
 ∃ p c, v = .slice p l.length c ∧ ∀ i (h : i < l.length), ∃ b off, p = some ⟨b, off, none⟩ ∧ w.cell? ⟨b, off + i, none⟩ = some (.int .i64 l[i])
theorem Nums.below {w w' : World} {v : Value} {l : List Int} (h : Nums w v l) (hb : Below w.heap.size w w') : Nums w' v l := by
 obtain ⟨p, c, hv, hc⟩ := h
 refine ⟨p, c, hv, fun i hi => ?_⟩
 obtain ⟨b, off, hp, h1⟩ := hc i hi
 have hlt := World.block_lt_of_cell? w _ h1
 exact ⟨b, off, hp, ((bcell hb) b _ hlt).trans h1⟩
theorem Nums.nil (w : World) (p : Option Addr) (c : Nat) : Nums w (.slice p 0 c) [] := ⟨p, c, rfl, fun i hi => absurd hi (Nat.not_lt_zero _)⟩
theorem Nums.of_own {w : World} {B : Nat} {t : TypeId} {v : Value} {l : List Int} (h : w.ownsRow B t 1 v l.length (l.map (Value.int .i64))) : Nums w v l := by
 obtain ⟨_, h⟩ := h
 rcases h with ⟨rfl, h0⟩ | ⟨g, cap, cur, rfl, _, hg, h1, h2, h3, h4⟩
 ·have : l = [] := List.eq_nil_of_length_eq_zero h0
  subst this
  exact Nums.nil _ _ _
 ·refine ⟨_, cap, rfl, fun i hi => ⟨g, 0, rfl, ?_⟩⟩
  have a : (l.map (Value.int .i64))[i]? = some (.int .i64 l[i]) := by rw [List.getElem?_map, List.getElem?_eq_getElem hi]; rfl
  rw [← h4, List.getElem?_take, if_pos (by omega)] at a
  simp only [World.cell?, hg, Nat.zero_add]
  simp only [Array.getElem?_toList] at a
  exact a
end Go.Proofs.YtaojfiegnebbdaaGreatDoor
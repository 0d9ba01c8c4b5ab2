/- refusal.Head's closure: it puts a field behind all, if its value is not empty. -/
import Derived.Test.YtmoofcmmpemdcaaGreatDoorFlds
import Derived.Deep.AppendLies
set_option linter.unusedSimpArgs false
set_option linter.unusedVariables false
namespace Go.Proofs.YtmoofcmmpemdcaaGreatDoor
open Go.RowKit
theorem blk_grown {w w' : World} {row : Option Nat} {g : Nat} {cs : Array Value} {t : TypeId} (h : Blk w g cs t) (hg : w.grownBy w' row) (hne : row ≠ some g) : Blk w' g cs t := (hg.block g h.lt (fun e => hne e.symm)).trans h
theorem info_field : (Tryz.prog.info? 95).map (fun i => (i.zero, i.size, i.bytes)) = some (some (.agg #[.string ⟨#[]⟩, .string ⟨#[]⟩]), 2, 32) := by kernel_rfl
theorem grown_set (w : World) (p : Addr) (v : Value) : w.grownBy (w.setCell p v) (some p.block) := ⟨rfl, rfl, rfl, by simp [World.setCell], fun k _ hne => Below.heap_setCell w p v k (fun e => hne (by rw [e]))⟩
theorem own_slice {w : World} {B : Nat} {e : TypeId} {size : Nat} {v : Value} {n : Nat} {xs : List Value} (h : w.ownsRow B e size v n xs) : ∃ p c, v = .slice p n c := by
  obtain ⟨_, h⟩ := h
  rcases h with ⟨rfl, rfl⟩ | ⟨g, cap, cur, rfl, _⟩
  · exact ⟨_, _, rfl⟩
  · exact ⟨_, _, rfl⟩
theorem own_set {w : World} {B : Nat} {e : TypeId} {size : Nat} {v : Value} {n : Nat} {xs : List Value} (h : w.ownsRow B e size v n xs) {g : Nat} (hg : g < B) (i : Nat) (u : Value) : (w.setCell ⟨g, i, none⟩ u).ownsRow B e size v n xs := by
  refine h.kept (grown_set w ⟨g, i, none⟩ u) ?_
  cases hv : v.ownBlock with
  | none => exact Or.inl rfl
  | some b =>
    right
    have := (h.lt b hv).1
    intro e
    have : b = g := by simpa using e
    omega
/-- A head's six cells, stored one by one. -/
def set6 (w : World) (g : Nat) (a b c d e f : Value) : World := (((((w.setCell ⟨g, 0, none⟩ a).setCell ⟨g, 1, none⟩ b).setCell ⟨g, 2, none⟩ c).setCell ⟨g, 3, none⟩ d).setCell ⟨g, 4, none⟩ e).setCell ⟨g, 5, none⟩ f
theorem blk_set6 {w : World} {g : Nat} {t : TypeId} {x0 x1 x2 x3 x4 x5 : Value} (h : Blk w g #[x0, x1, x2, x3, x4, x5] t) (a b c d e f : Value) : Blk (set6 w g a b c d e f) g #[a, b, c, d, e, f] t := by
  have := (((((h.set 0 a).set 1 b).set 2 c).set 3 d).set 4 e).set 5 f
  simp at this
  exact this
theorem own_set6 {w : World} {B : Nat} {ty : TypeId} {size : Nat} {v : Value} {n : Nat} {xs : List Value} (h : w.ownsRow B ty size v n xs) {g : Nat} (hg : g < B) (a b c d e f : Value) : (set6 w g a b c d e f).ownsRow B ty size v n xs :=
  own_set (own_set (own_set (own_set (own_set (own_set h hg _ _) hg _ _) hg _ _) hg _ _) hg _ _) hg _ _
theorem below_set6 {w w' : World} {B g : Nat} (h : Below B w w') (hg : B ≤ g) (a b c d e f : Value) : Below B w (set6 w' g a b c d e f) :=
  (((((h.setCell hg _).setCell hg _).setCell hg _).setCell hg _).setCell hg _).setCell hg _
set_option maxRecDepth 100000 in
theorem put_none (name : ByteArray) (a : Addr) (w : World) : Calls Tryz.prog 91 #[.string name, .string ⟨#[]⟩, .pointer (some a)] w fun e w' => e = .returned (.tuple #[]) ∧ w = w' := by
  go_enter Tryz.func91, Tryz.ntmps91
  go_wp2_with fail
  go_end0
  exact ⟨rfl, rfl⟩
set_option maxRecDepth 100000 in
theorem put_any (name value : ByteArray) (hv : value.toList.isEmpty = false) (g B : Nat) (m t k s r fv : Value) (l : List Fd) (w : World) (hg : Blk w g #[m, t, k, s, r, fv] 24) (hown : w.ownsRow B 95 2 fv l.length (flat l)) (hgB : g < B) (hB : B ≤ w.heap.size) (hl : l.length ≤ 1000) :
    Calls Tryz.prog 91 #[.string name, .string value, .pointer (some ⟨g, 0, none⟩)] w fun e w' => e = .returned (.tuple #[]) ∧ ∃ fv', Blk w' g #[m, t, k, s, r, fv'] 24 ∧ w'.ownsRow B 95 2 fv' (l ++ [(name, value)]).length (flat (l ++ [(name, value)])) ∧ B ≤ w'.heap.size ∧ Below g w w' := by
  obtain ⟨i0, hi, hz0, hz1, hz2⟩ := info_parts info_field
  have q5 : w.cell? ⟨g, 5, none⟩ = some fv := hg.cell 5
  have f5 : w.frozen? ⟨g, 5, none⟩ = false := hg.froz 5
  have hlt := hg.lt
  have HO := Lib.hid hown
  have HG := Lib.hid hg
  have HB := Lib.hid hB
  clear hown hg hB
  go_enter Tryz.func91, Tryz.ntmps91
  go_wp2_with (at_builtin; refine wpList_append_own _ rfl _ _ 22 rfl B 95 i0 _ 2 32 Tryz.underlying22 hi hz0 hz1 hz2 rfl (by decide) _ _ _ rfl (HO.out.alloc _) ⟨w.heap.size, 0, none⟩ 1 1 [.string name, .string value] rfl rfl ?c1 ?c2 ?c3 ?c4 ?c5 ?_)
  case c1 => exact World.news_of_block (cs := #[.string name, .string value]) (t := 95) (fr := (0, 0)) (heap_alloc_new w _)
  case c2 => simp [Value.oneCell']
  case c3 => unfold maxLen; omega
  case c4 => omega
  case c5 => have := HB.out; simp; omega
  intro v' w1 hown1 hgrow1 _
  obtain ⟨p', c', rfl⟩ := own_slice hown1
  have hlo := (HO.out.alloc (.cells #[.string name, .string value] 95)).lt
  have hK := blk_grown (HG.out.alloc (.cells #[.string name, .string value] 95)) hgrow1 (fun h => by have := (hlo g h).1; omega)
  have hb1 : Below g w w1 := ((Below.refl _ _).alloc (by omega) _).grown hgrow1 (by simp; omega) (fun j hj => by have := (hlo j hj).1; omega)
  have hz : B ≤ w1.heap.size := by have h1 := hgrow1.size; have := HB.out; simp at h1; omega
  have f5' : w1.frozen? ⟨g, 5, none⟩ = false := hK.froz 5
  have q5' : w1.cell? ⟨g, 5, none⟩ = some fv := hK.cell 5
  have HO1 := Lib.hid hown1
  have HK := Lib.hid hK
  have HB1 := Lib.hid hb1
  have HZ := Lib.hid hz
  clear hown1 hgrow1 hlo hK hb1 hz
  go_wp2_with fail
  go_end0
  have e1 : (l ++ [(name, value)]).length = l.length + 1 := by simp
  have e2 : flat (l ++ [(name, value)]) = flat l ++ [.string name, .string value] := by rw [flat_append]; rfl
  refine ⟨rfl, .slice p' (l.length + 1) c', ?_, ?_, by simpa using HZ.out, HB1.out.setCell (Nat.le_refl _) _⟩
  · have := HK.out.set 5 (.slice p' (l.length + 1) c')
    simpa using this
  · rw [e1, e2]
    refine HO1.out.kept (grown_set w1 ⟨g, 5, none⟩ _) ?_
    cases h : (Value.slice p' (l.length + 1) c').ownBlock with
    | none => exact Or.inl rfl
    | some b =>
      right
      have := (HO1.out.lt b h).1
      intro e
      have : b = g := by simpa using e
      omega
end Go.Proofs.YtmoofcmmpemdcaaGreatDoor

/- Texts packed for one claim, 22 of 49: PFeed HNew. -/
import Derived.Test.YtbglakhojbhfbaaGreatDoorEncodeBackQ21
set_option linter.unusedSimpArgs false
set_option linter.unusedVariables false
-- PFeed
namespace Go.Proofs.YtbglakhojbhfbaaGreatDoor
open Go.RowKit
/-- A row that lies where another lay, or is new. -/
def FreshB (w : World) (v v' : Value) : Prop := v'.ownBlock = v.ownBlock ∨ ∀ k, v'.ownBlock = some k → w.heap.size ≤ k
theorem FreshB.refl (w : World) (v : Value) : FreshB w v v := Or.inl rfl
theorem FreshB.trans {w w1 : World} {v v1 v2 : Value} (h : FreshB w v v1) (hs : w.heap.size ≤ w1.heap.size) (k : FreshB w1 v1 v2) : FreshB w v v2 := by
  rcases k with k | k
  · rcases h with h | h
    · exact Or.inl (k.trans h)
    · exact Or.inr (fun j hj => h j (k ▸ hj))
  · exact Or.inr (fun j hj => Nat.le_trans hs (k j hj))
theorem paP_into {w : World} {b g : Nat} {vl va vl1 va1 : Value} (hl : FreshB w vl vl1) (ha : FreshB w va va1) : ∀ i, i < w.heap.size → PaP b g vl1 va1 i → PaP b g vl va i := by
  rintro i hi (e | e | e | e)
  · exact Or.inl e
  · exact Or.inr (Or.inl e)
  · rcases hl with hl | hl
    · exact Or.inr (Or.inr (Or.inl (hl ▸ e)))
    · exact absurd (hl i e) (by omega)
  · rcases ha with ha | ha
    · exact Or.inr (Or.inr (Or.inr (ha ▸ e)))
    · exact absurd (ha i e) (by omega)
theorem lnP_pa {b g : Nat} {vl va : Value} : ∀ i, LnP g vl i → PaP b g vl va i := by
  rintro i (e | e)
  · exact Or.inr (Or.inl e)
  · exact Or.inr (Or.inr (Or.inl e))
/-- Whether a parser holds no error. -/
def pM (b : Nat) (w : World) : Nat := match w.cell? ⟨b, 15, none⟩ with
  | some (.int _ e) => if e = 0 then 1 else 0
  | _ => 0
theorem pM_eq {b : Nat} {w : World} {e : Int} (h : w.cell? ⟨b, 15, none⟩ = some (.int .i64 e)) : pM b w = if e = 0 then 1 else 0 := by unfold pM; rw [h]
theorem extract_drop (S : ByteArray) (k : Nat) : (S.extract k S.size).data.toList = S.data.toList.drop k := by
  have h1 : (S.extract k S.size).data.toList = (S.data.toList.drop k).take (S.size - k) := by simp [ByteArray.data_extract, List.extract_eq_take_drop]
  rw [h1, List.take_of_length_le (by rw [List.length_drop, ← Lib.size_eq]; omega)]
end Go.Proofs.YtbglakhojbhfbaaGreatDoor
-- HNew
namespace Go.Proofs.YtbglakhojbhfbaaGreatDoor
open Go.RowKit
def pa0 (a : Int) : PaS := ⟨ln0 a, [], false, hd0, 0⟩
theorem pa0_bd {a : Int} (h0 : 0 ≤ a) (h1 : a ≤ 65536) : PaBd (pa0 a) := ⟨⟨h0, Int.le_refl 0, by show a + 0 ≤ 65536; omega, by show ((0 : Nat) : Int) ≤ 0; decide⟩, by show ((0 : Nat) : Int) + tot [] + 0 ≤ 0; decide, rfl, fun _ _ => rfl, Nat.zero_le _⟩
end Go.Proofs.YtbglakhojbhfbaaGreatDoor

/- Texts packed for one claim, 39 of 49: OpenHead. -/
import Derived.Test.YtbglakhojbhfbaaGreatDoorProg
import Derived.WalkKit
import Derived.ProofKit
import Derived.OpenShut
set_option linter.unusedSimpArgs false
set_option linter.unusedVariables false
-- OpenHead
namespace Go.Proofs.YtbglakhojbhfbaaGreatDoor
open Go.ChangeShapes Go.WideShapes Go.ChangeAt Go.RowKit
section
variable {H : Type} {enc : TypeId × Value → H} {P : Program} {w : World} {base : Nat} {spare : Nat → Bool} {held : Bool} {n : Nat}
theorem int_cell_at {t : TypeId} {l : List Value} {i o : Nat} {x : Value} {xs : List (DataW H × List MemPlace)} (hu : P.underlying t = some (.int .i64)) (h1 : P.cellsOf t = 1) (hx : l[o]? = some x) (hi : i < xs.length)
    (h : DataW.trod enc P w base spare held n t ((l.drop o).take (P.cellsOf t)) = xs[i]?) : ∃ k, x = .int .i64 k ∧ -9223372036854775808 ≤ k ∧ k ≤ 9223372036854775807 := by
  rw [h1, List.getElem?_eq_getElem hi] at h
  obtain ⟨ho, rfl⟩ := List.getElem?_eq_some_iff.1 hx
  rw [List.drop_eq_getElem_cons ho] at h
  obtain ⟨k, hk, _, hw⟩ := DataW.trod_int hu h
  simp only [List.take_succ_cons, List.take_zero, List.cons.injEq, and_true] at hk
  simp only [Lit.wf, Bool.and_eq_true, decide_eq_true_eq] at hw
  exact ⟨k, hk, hw⟩
theorem str_cell_at {t : TypeId} {l : List Value} {i o : Nat} {x : Value} {xs : List (DataW H × List MemPlace)} (hu : P.underlying t = some .string) (h1 : P.cellsOf t = 1) (hx : l[o]? = some x) (hi : i < xs.length)
    (h : DataW.trod enc P w base spare held n t ((l.drop o).take (P.cellsOf t)) = xs[i]?) : ∃ s, x = .string s ∧ s.size ≤ 9223372036854775807 := by
  rw [h1, List.getElem?_eq_getElem hi] at h
  obtain ⟨ho, rfl⟩ := List.getElem?_eq_some_iff.1 hx
  rw [List.drop_eq_getElem_cons ho] at h
  obtain ⟨k, hk, _, hw⟩ := DataW.trod_string hu h
  simp only [List.take_succ_cons, List.take_zero, List.cons.injEq, and_true] at hk
  unfold maxLen at hw
  exact ⟨k, hk, by omega⟩
theorem list6 {α : Type} (l : List α) (h : l.length = 6) : ∃ c0 c1 c2 c3 c4 c5, l = [c0, c1, c2, c3, c4, c5] := by
  match l, h with
  | [c0, c1, c2, c3, c4, c5], _ => exact ⟨c0, c1, c2, c3, c4, c5, rfl⟩
end
set_option maxRecDepth 100000 in
theorem open_head {H : Type} {enc : TypeId × Value → H} {W : World} {base : Nat} {spare : Nat → Bool} {held : Bool} {v : Value} {x : DataW H × List MemPlace} {fuel : Nat} (hv : Value.okWide Tryz.prog W .any base 27 v)
    (hf : DataW.trod enc Tryz.prog W 0 spare held fuel 27 v.cells.toList = some x) : ∃ m t r k n f, v = .agg #[.string m, .string t, .int .i64 k, .int .i64 n, .string r, f] ∧ -9223372036854775808 ≤ n ∧ n ≤ 9223372036854775807 := by
  have oI : Tryz.prog.cellsOf 3 = 1 := by kernel_rfl
  have oS : Tryz.prog.cellsOf 9 = 1 := by kernel_rfl
  obtain ⟨cs, rfl, hsz⟩ := okWide_struct Tryz.underlying27 hv
  have hC : Tryz.prog.cellsOf 27 = 6 := by kernel_rfl
  obtain ⟨l⟩ := cs
  obtain ⟨c0, c1, c2, c3, c4, c5, rfl⟩ := list6 l (hsz.trans hC)
  obtain ⟨xs, n, _, hx, _, hlen, hg⟩ := DataW.trod_struct Tryz.underlying27 hf
  have hlen : xs.length = 6 := hlen
  obtain ⟨m, rfl, _⟩ := str_cell_at Tryz.underlying9 oS (o := 0) (i := 0) (x := c0) rfl (by omega) (hg 0 _ rfl)
  obtain ⟨t, rfl, _⟩ := str_cell_at Tryz.underlying9 oS (o := 1) (i := 1) (x := c1) rfl (by omega) (hg 1 _ rfl)
  obtain ⟨k, rfl, _⟩ := int_cell_at Tryz.underlying3 oI (o := 2) (i := 2) (x := c2) rfl (by omega) (hg 2 _ rfl)
  obtain ⟨n', rfl, h1, h2⟩ := int_cell_at Tryz.underlying3 oI (o := 3) (i := 3) (x := c3) rfl (by omega) (hg 3 _ rfl)
  obtain ⟨r, rfl, _⟩ := str_cell_at Tryz.underlying9 oS (o := 4) (i := 4) (x := c4) rfl (by omega) (hg 4 _ rfl)
  exact ⟨m, t, r, k, n', c5, rfl, h1, h2⟩
end Go.Proofs.YtbglakhojbhfbaaGreatDoor

/- Texts packed for one claim, 48 of 49: OpenFr. -/
import Derived.Test.YtbglakhojbhfbaaGreatDoorEncodeBackQ39
import Derived.Deep.Fields
import Derived.ChangeSame
set_option linter.unusedSimpArgs false
set_option linter.unusedVariables false
-- OpenFr
namespace Go.Proofs.YtbglakhojbhfbaaGreatDoor
open Go.RowKit Go.ChangeShapes Go.WideShapes Go.Deep
theorem list2f {α : Type} (l : List α) (h : l.length = 2) : ∃ c0 c1, l = [c0, c1] := by
  match l, h with
  | [c0, c1], _ => exact ⟨c0, c1, rfl⟩
set_option maxRecDepth 100000 in
theorem open_fr {H : Type} {enc : TypeId × Value → H} {W : World} {base : Nat} {spare : Nat → Bool} {held : Bool} {v : Value} {x : DataW H × List MemPlace} {fuel : Nat} (hv : Value.okWide Tryz.prog W .any base 23 v)
    (hf : DataW.trod enc Tryz.prog W 0 spare held fuel 23 v.cells.toList = some x) : ∃ k n, v = .agg #[.int .i64 k, .int .i64 n] ∧ (-9223372036854775808 ≤ k ∧ k ≤ 9223372036854775807) ∧ -9223372036854775808 ≤ n ∧ n ≤ 9223372036854775807 := by
  have oI : Tryz.prog.cellsOf 3 = 1 := by kernel_rfl
  obtain ⟨cs, rfl, hsz⟩ := okWide_struct Tryz.underlying23 hv
  have hC : Tryz.prog.cellsOf 23 = 2 := by kernel_rfl
  obtain ⟨l⟩ := cs
  obtain ⟨c0, c1, rfl⟩ := list2f l (hsz.trans hC)
  obtain ⟨xs, n, _, hx, _, hlen, hg⟩ := DataW.trod_struct Tryz.underlying23 hf
  have hlen : xs.length = 2 := hlen
  obtain ⟨k, rfl, hk⟩ := int_cell_at Tryz.underlying3 oI (o := 0) (i := 0) (x := c0) rfl (by omega) (hg 0 _ rfl)
  obtain ⟨n', rfl, hn⟩ := int_cell_at Tryz.underlying3 oI (o := 1) (i := 1) (x := c1) rfl (by omega) (hg 1 _ rfl)
  exact ⟨k, n', rfl, hk, hn⟩
end Go.Proofs.YtbglakhojbhfbaaGreatDoor

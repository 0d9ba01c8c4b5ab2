/- Texts packed for one claim, 45 of 45: OpenCase. -/
import Derived.Test.YtcpjkemjpgggcaaGreatDoorRefusalWholeQ29
import Derived.Deep.Fields
import Derived.ChangeSame
set_option linter.unusedSimpArgs false
set_option linter.unusedVariables false
-- OpenCase
namespace Go.Proofs.YtcpjkemjpgggcaaGreatDoor
open Go.RowKit Go.ChangeShapes Go.WideShapes Go.Deep
theorem list3 {α : Type} (l : List α) (h : l.length = 3) : ∃ c0 c1 c2, l = [c0, c1, c2] := by
  match l, h with
  | [c0, c1, c2], _ => exact ⟨c0, c1, c2, rfl⟩
set_option maxRecDepth 100000 in
theorem open_case {H : Type} {enc : TypeId × Value → H} {W : World} {base : Nat} {spare : Nat → Bool} {held : Bool} {v : Value} {x : DataW H × List MemPlace} {fuel : Nat} (hv : Value.okWide Tryz.prog W .any base 57 v)
    (hf : DataW.trod enc Tryz.prog W 0 spare held fuel 57 v.cells.toList = some x) : ∃ k n m, v = .agg #[.int .i64 k, .int .i64 n, .int .i64 m] ∧ (-9223372036854775808 ≤ n ∧ n ≤ 9223372036854775807) ∧ -9223372036854775808 ≤ m ∧ m ≤ 9223372036854775807 := by
  have oI : Tryz.prog.cellsOf 3 = 1 := by kernel_rfl
  obtain ⟨cs, rfl, hsz⟩ := okWide_struct Tryz.underlying57 hv
  have hC : Tryz.prog.cellsOf 57 = 3 := by kernel_rfl
  obtain ⟨l⟩ := cs
  obtain ⟨c0, c1, c2, rfl⟩ := list3 l (hsz.trans hC)
  obtain ⟨xs, n, _, hx, _, hlen, hg⟩ := DataW.trod_struct Tryz.underlying57 hf
  have hlen : xs.length = 3 := hlen
  obtain ⟨k, rfl, hk⟩ := int_cell_at Tryz.underlying3 oI (o := 0) (i := 0) (x := c0) rfl (by omega) (hg 0 _ rfl)
  obtain ⟨n', rfl, hn⟩ := int_cell_at Tryz.underlying3 oI (o := 1) (i := 1) (x := c1) rfl (by omega) (hg 1 _ rfl)
  obtain ⟨m, rfl, hm⟩ := int_cell_at Tryz.underlying3 oI (o := 2) (i := 2) (x := c2) rfl (by omega) (hg 2 _ rfl)
  exact ⟨k, n', m, rfl, hn, hm⟩
end Go.Proofs.YtcpjkemjpgggcaaGreatDoor

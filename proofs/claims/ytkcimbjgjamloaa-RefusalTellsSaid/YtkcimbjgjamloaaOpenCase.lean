/- A struct of three numbers, opened to its cells. -/
import Derived.Test.YtkcimbjgjamloaaOpenHead
import Derived.Deep.Fields
import Derived.ChangeSame
namespace Go.Proofs.Ytkcimbjgjamloaa
open Go.RowKit Go.ChangeShapes Go.WideShapes Go.Deep
theorem list3 {α : Type} (l : List α) (h : l.length = 3) : ∃ c0 c1 c2, l = [c0, c1, c2] := by
  match l, h with
  | [c0, c1, c2], _ => exact ⟨c0, c1, c2, rfl⟩
set_option maxRecDepth 100000 in
theorem open_case {H : Type} {enc : TypeId × Value → H} {W : World} {base : Nat} {spare : Nat → Bool} {held : Bool} {v : Value} {x : DataW H × List MemPlace} {fuel : Nat} (hv : Value.okWide Try.prog W .any base 24 v)
    (hf : DataW.trod enc Try.prog W 0 spare held fuel 24 v.cells.toList = some x) : ∃ k n m, v = .agg #[.int .i64 k, .int .i64 n, .int .i64 m] ∧ (-9223372036854775808 ≤ n ∧ n ≤ 9223372036854775807) ∧ -9223372036854775808 ≤ m ∧ m ≤ 9223372036854775807 := by
  have oI : Try.prog.cellsOf 3 = 1 := by kernel_rfl
  obtain ⟨cs, rfl, hsz⟩ := okWide_struct Try.underlying24 hv
  have hC : Try.prog.cellsOf 24 = 3 := by kernel_rfl
  obtain ⟨l⟩ := cs
  obtain ⟨c0, c1, c2, rfl⟩ := list3 l (hsz.trans hC)
  obtain ⟨xs, n, _, hx, _, hlen, hg⟩ := DataW.trod_struct Try.underlying24 hf
  have hlen : xs.length = 3 := hlen
  obtain ⟨k, rfl, hk⟩ := int_cell_at Try.underlying3 oI (o := 0) (i := 0) (x := c0) rfl (by omega) (hg 0 _ rfl)
  obtain ⟨n', rfl, hn⟩ := int_cell_at Try.underlying3 oI (o := 1) (i := 1) (x := c1) rfl (by omega) (hg 1 _ rfl)
  obtain ⟨m, rfl, hm⟩ := int_cell_at Try.underlying3 oI (o := 2) (i := 2) (x := c2) rfl (by omega) (hg 2 _ rfl)
  exact ⟨k, n', m, rfl, hn, hm⟩
end Go.Proofs.Ytkcimbjgjamloaa

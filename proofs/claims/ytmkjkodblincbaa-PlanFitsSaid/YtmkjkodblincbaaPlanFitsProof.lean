/- PlanFits: proved for every frame, every minor and every config, no condition. -/
import Derived.Test.YtmkjkodblincbaaRows
import Derived.Test.YtmkjkodblincbaaPlanFits
import Derived.WalkKit
import Derived.ProofKit
import Derived.OpenShut
import Derived.ShutString
import Derived.ChangeOld
import Derived.Below
import Derived.Lib.SmallJoins
namespace Go.Proofs.Ytmkjkodblincbaa.planFits
open Go.ChangeShapes Go.WideShapes Go.ChangeAt Go.RowKit Go.Joins
open Go.ChangeMaps (open_string shut_string)
set_option linter.unusedVariables false

theorem own : ownKnob Try.prog.godebug = none := by kernel_rfl
theorem laidOut : laidOutB Try.prog = true := by kernel_rfl
theorem list18 {α : Type} (l : List α) (h : l.length = 18) : ∃ c0 c1 c2 c3 c4 c5 c6 c7 c8 c9 c10 c11 c12 c13 c14 c15 c16 c17, l = [c0, c1, c2, c3, c4, c5, c6, c7, c8, c9, c10, c11, c12, c13, c14, c15, c16, c17] := by
  match l, h with
  | [c0, c1, c2, c3, c4, c5, c6, c7, c8, c9, c10, c11, c12, c13, c14, c15, c16, c17], _ => exact ⟨c0, c1, c2, c3, c4, c5, c6, c7, c8, c9, c10, c11, c12, c13, c14, c15, c16, c17, rfl⟩
theorem int_cell {H : Type} {enc : TypeId × Value → H} {P : Program} {w : World} {base : Nat} {spare : Nat → Bool} {held : Bool} {n : Nat} {t : TypeId} {l : List Value} {i o : Nat} {x : Value} {xs : List (DataW H × List MemPlace)} (hu : P.underlying t = some (.int .i64)) (h1 : P.cellsOf t = 1) (hx : l[o]? = some x) (hi : i < xs.length)
    (h : DataW.trod enc P w base spare held n t ((l.drop o).take (P.cellsOf t)) = xs[i]?) : ∃ k, x = .int .i64 k := by
  rw [h1, List.getElem?_eq_getElem hi] at h
  obtain ⟨ho, rfl⟩ := List.getElem?_eq_some_iff.1 hx
  rw [List.drop_eq_getElem_cons ho] at h
  obtain ⟨k, hk, _, _⟩ := DataW.trod_int hu h
  simp only [List.take_succ_cons, List.take_zero, List.cons.injEq, and_true] at hk
  exact ⟨k, hk⟩

set_option maxRecDepth 100000 in
theorem lifted (os : Os) (started : os.Started) (H : Type) (enc : TypeId × Value → H) :
    ReturnsInHanded {} Try.checked os 4 .any (Rows.planFitsSpec.pre6 enc Try.prog Try.f4 Rows.planFitsRow.domain false) (Rows.planFitsSpec.post enc Try.prog Try.f4 false true false false) := by
  refine returnsInHanded_of_change (C := Try.checked) own started (by kernel_rfl) Try.func4
    (ChangeSpec.witness6 (enc := enc) (C := Try.checked) false ⟨#[], #[.agg #[.int .i64 0, .int .i64 0], .int .i64 0, .agg #[.string ⟨#[]⟩, .string ⟨#[]⟩, .int .i64 0, .int .i64 0, .int .i64 0, .int .i64 0, .int .i64 0, .int .i64 0, .int .i64 0, .int .i64 0, .int .i64 0, .int .i64 0, .int .i64 0, .int .i64 0, .int .i64 0, .int .i64 0, .int .i64 0, .int .i64 0]], []⟩ 8 (by kernel_rfl) (by kernel_rfl) (by kernel_rfl) (by kernel_rfl)) ?_
  intro W base args ds gs before hval0 hW hcnd _
  have hval : ∀ (j : Nat) t v, Try.f4.params[j]? = some t → args[j]? = some v → Value.okWide Try.prog W .any base t v := hval0
  have hW' := hW
  obtain ⟨p, q, hA, hV, rfl, hfz, hnd⟩ := hW
  have hA : DataW.TrodAll enc Try.prog W 0 (fun _ => true) true Try.f4.params.toList args.toList ds p := hA
  rw [Try.params4] at hA hval
  obtain ⟨v0, vs0, d0, ds0, p0, q0, hargs, rfl, rfl, h0, r0⟩ := trodAll_cons hA
  obtain ⟨v1, vs1, d1, ds1, p1, q1, rfl, rfl, rfl, h1, r1⟩ := trodAll_cons r0
  obtain ⟨v2, vs2, d2, ds2, p2, q2, rfl, rfl, rfl, h2, r2⟩ := trodAll_cons r1
  obtain ⟨rfl, rfl, rfl⟩ := trodAll_nil r2
  obtain rfl : args = #[v0, v1, v2] := by cases args; simp_all
  obtain ⟨rfl, rfl⟩ := trodVars_none hV
  have lt0 : ∀ x ∈ p0, x.block < W.heap.size := by obtain ⟨m, hm⟩ := h0; exact DataW.trod_lt m _ _ _ hm
  have lt1 : ∀ x ∈ p1, x.block < W.heap.size := by obtain ⟨m, hm⟩ := h1; exact DataW.trod_lt m _ _ _ hm
  have lt2 : ∀ x ∈ p2, x.block < W.heap.size := by obtain ⟨m, hm⟩ := h2; exact DataW.trod_lt m _ _ _ hm
  have oI : Try.prog.cellsOf 3 = 1 := by kernel_rfl
  have k0 := h0
  obtain ⟨x0, x1, rfl⟩ : ∃ x0 x1, v0 = .agg #[.int .i64 x0, .int .i64 x1] := by
    obtain ⟨x0, x1, y0, y1, nf, rfl, _, _, f0, f1⟩ := open_agg2 Try.underlying33 (by kernel_rfl) (by kernel_rfl) (hval 0 33 v0 rfl rfl) h0
    obtain ⟨fk, hfk, _, _⟩ := DataW.trod_int Try.underlying3 f0
    obtain ⟨fl, hfl, _, _⟩ := DataW.trod_int Try.underlying3 f1
    simp only [List.cons.injEq, and_true] at hfk hfl
    subst hfk hfl
    exact ⟨_, _, rfl⟩
  have k1 := h1
  obtain ⟨a1, rfl, rfl, rfl, w1⟩ := open_int Try.underlying3 (hval 1 3 v1 rfl rfl) h1
  have k2 := h2
  obtain ⟨c0, c1, m, s, c4, c5, c, c7, c8, c9, c10, c11, c12, c13, c14, c15, c16, c17, rfl⟩ : ∃ c0 c1 m s c4 c5 c c7 c8 c9 c10 c11 c12 c13 c14 c15 c16 c17, v2 = .agg #[c0, c1, .int .i64 m, .int .i64 s, c4, c5, .int .i64 c, c7, c8, c9, c10, c11, c12, c13, c14, c15, c16, c17] := by
    obtain ⟨cs, rfl, hsz⟩ := okWide_struct Try.underlying37 (hval 2 37 v2 rfl rfl)
    have hC : Try.prog.cellsOf 37 = 18 := by kernel_rfl
    obtain ⟨l⟩ := cs
    obtain ⟨c0, c1, c2, c3, c4, c5, c6, c7, c8, c9, c10, c11, c12, c13, c14, c15, c16, c17, rfl⟩ := list18 l (hsz.trans hC)
    obtain ⟨fuel, hf⟩ := h2
    obtain ⟨xs, n, _, hx, _, hlen, hg⟩ := DataW.trod_struct Try.underlying37 hf
    have hlen : xs.length = 14 := hlen
    obtain ⟨m, rfl⟩ := int_cell Try.underlying3 oI (o := 2) (i := 2) (x := c2) rfl (by omega) (hg 2 _ rfl)
    obtain ⟨s, rfl⟩ := int_cell Try.underlying3 oI (o := 3) (i := 3) (x := c3) rfl (by omega) (hg 3 _ rfl)
    obtain ⟨c, rfl⟩ := int_cell Try.underlying3 oI (o := 6) (i := 6) (x := c6) rfl (by omega) (hg 6 _ rfl)
    exact ⟨_, _, _, _, _, _, _, _, _, _, _, _, _, _, _, _, _, _, rfl⟩
  clear hval0
  refine (fits x0 x1 a1 m s c c0 c1 c4 c5 c7 c8 c9 c10 c11 c12 c13 c14 c15 c16 c17 W).mono fun e W' ⟨he, bel⟩ => ?_
  subst he
  exact ⟨_, rfl, _, _, _, [], _, [], hW', trodAll_mk1 (shut_bool Try.underlying4 _), (trodAll_cons_mk (Below.trod laidOut (by kernel_rfl) (of_decide_eq_true (by kernel_rfl)) k0 bel lt0) (trodAll_cons_mk (Below.trod laidOut (by kernel_rfl) (of_decide_eq_true (by kernel_rfl)) k1 bel lt1) (trodAll_cons_mk (Below.trod laidOut (by kernel_rfl) (of_decide_eq_true (by kernel_rfl)) k2 bel lt2) trodAll_mk0))), rfl, bel.frame _, fun h => by cases h⟩

theorem over : Rows.planFitsRow.holds Try.pinned (OpenSpec.ofChange Rows.planFitsSpec) :=
  OpenClaim.holds_of_wide 4 Try.f4 rfl rfl rfl rfl rfl rfl rfl ⟨rfl, rfl, rfl, rfl, rfl⟩ rfl rfl rfl rfl rfl (by kernel_rfl) Try.func4 (by kernel_rfl)
    (of_decide_eq_true (by kernel_rfl)) (by unfold Func.isWrapper; first | (rw [if_pos (by decide +kernel)]; kernel_rfl) | (rw [if_neg (by decide +kernel)]; exact ⟨rfl, rfl⟩))
    (fun os started H enc _ => lifted os started H enc)

theorem proved : Rows.PlanFitsSaid := over
#print axioms proved
end Go.Proofs.Ytmkjkodblincbaa.planFits

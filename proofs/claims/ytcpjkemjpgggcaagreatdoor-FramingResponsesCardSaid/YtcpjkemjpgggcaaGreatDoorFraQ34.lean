/- Texts packed for one claim, 34 of 34: OpenFd. -/
import Derived.Test.YtcpjkemjpgggcaaGreatDoorFraQ29
import Derived.Test.YtcpjkemjpgggcaaGreatDoorFraQ33
import Derived.Deep.Slices
import Derived.Deep.Fields
import Derived.ChangeSame
set_option linter.unusedSimpArgs false
set_option linter.unusedVariables false
-- OpenFd
namespace Go.Proofs.YtcpjkemjpgggcaaGreatDoor
open Go.RowKit Go.ChangeShapes Go.WideShapes Go.Deep
section
variable {H : Type} {enc : TypeId × Value → H} {P : Program} {w : World}
theorem hfield_one {fs : Array Field} {spare : Nat → Bool} {held : Bool} {n : Nat} {cs : List Value} {xs : List (DataW H × List MemPlace)}
    (hone : oneCellFields P fs = true) (hlen : cs.length = fs.size)
    (hf : ∀ (i : Nat) (f : Field), fs[i]? = some f → DataW.trod enc P w 0 spare held n f.type ((cs.drop f.offset).take (P.cellsOf f.type)) = xs[i]?) (hx : xs.length = fs.size) {j : Nat} {f : Field} (hj : fs[j]? = some f) :
    ∃ v y, cs[j]? = some v ∧ DataW.trod enc P w 0 spare held n f.type [v] = some y := by
  obtain ⟨ho, hk⟩ := hone_of hone j f hj
  have hjl : j < fs.size := (Array.getElem?_eq_some_iff.1 hj).1
  have h1 := hf j f hj
  rw [ho, hk] at h1
  have h2 : (cs.drop j).take 1 = [cs[j]'(by omega)] := by
    rw [List.drop_eq_getElem_cons (by omega)]
    rfl
  rw [h2, List.getElem?_eq_getElem (show j < xs.length by omega)] at h1
  exact ⟨_, _, List.getElem?_eq_getElem (by omega), h1⟩
theorem open_hfds {t e ts : TypeId} {f0 f1 : Field} {fuel : Nat} {v : Value} {x : DataW H × List MemPlace} (ht : P.underlying t = some (.slice e)) (he : P.underlying e = some (.struct #[f0, f1]))
    (hone : oneCellFields P #[f0, f1] = true) (hC : P.cellsOf e = 2) (e0 : f0.type = ts) (e1 : f1.type = ts) (hts : P.underlying ts = some .string)
    (h : DataW.trod enc P w 0 (fun _ => true) true fuel t [v] = some x) : ∃ A len cap, v = .slice A len cap ∧ len ≤ 9223372036854775807 ∧ ∃ l, Fds w A len l := by
  rcases open_slice ht h with ⟨hcs, _⟩ | ⟨a, len, cap, m, n, D, Pl, hcs, _, hl, hm, hmm, _, hi⟩
  · simp only [List.cons.injEq, and_true] at hcs
    exact ⟨none, 0, 0, hcs, by omega, [], rfl, fun h => absurd h (by omega)⟩
  simp only [List.cons.injEq, and_true] at hcs
  refine ⟨some a, len, cap, hcs, ?_, ?_⟩
  · unfold maxLen at hm; omega
  have hlm : len ≤ m := by rw [hmm]; split <;> omega
  have hel : ∀ i, i < len → ∃ g : Fld, w.cell? (a.add (i * 2)) = some (.string g.1) ∧ w.cell? (a.add (i * 2 + 1)) = some (.string g.2) := by
    intro i hil
    obtain ⟨cs', hc, ht'⟩ := hi i (by omega)
    rw [hC] at hc
    obtain ⟨xs, n', _, _, hlen, hxl, hf⟩ := DataW.trod_struct he ht'
    rw [hC] at hlen
    obtain ⟨_, hcl, hat⟩ := World.cells?_some hc
    obtain ⟨v0, y0, g0, t0⟩ := hfield_one hone hlen hf hxl (j := 0) (f := f0) rfl
    obtain ⟨v1, y1, g1, t1⟩ := hfield_one hone hlen hf hxl (j := 1) (f := f1) rfl
    rw [e0] at t0
    rw [e1] at t1
    obtain ⟨s0, q0, _, w0⟩ := DataW.trod_string hts t0
    obtain ⟨s1, q1, _, w1⟩ := DataW.trod_string hts t1
    simp only [List.cons.injEq, and_true] at q0 q1
    subst q0 q1
    have a0 := hat 0 (by omega)
    have a1 := hat 1 (by omega)
    rw [g0] at a0
    rw [g1] at a1
    refine ⟨⟨s0, s1⟩, ?_, ?_⟩
    · rw [Go.Deep.add_add] at a0; exact a0
    · rw [Go.Deep.add_add] at a1; exact a1
  obtain ⟨f, hf⟩ : ∃ f : Nat → Fld, ∀ i, i < len → w.cell? (a.add (i * 2)) = some (.string (f i).1) ∧ w.cell? (a.add (i * 2 + 1)) = some (.string (f i).2) :=
    ⟨fun i => if h : i < len then Classical.choose (hel i h) else ⟨⟨#[]⟩, ⟨#[]⟩⟩, fun i h => by
      simp only [dif_pos h]
      exact Classical.choose_spec (hel i h)⟩
  refine ⟨(List.range len).map f, by simp, fun h0 => ?_⟩
  obtain ⟨b, off, spot⟩ := a
  have h1 := (hf 0 h0).1
  have hs : spot = none := by simpa [Addr.add] using World.cell?_spot h1
  subst hs
  refine ⟨b, off, rfl, by simpa [Addr.add] using World.block_lt_of_cell? _ _ h1, fun i g hg => ?_⟩
  rw [List.getElem?_map] at hg
  rcases Nat.lt_or_ge i len with hi | hi
  · rw [List.getElem?_range hi] at hg
    simp only [Option.map_some, Option.some.injEq] at hg
    subst hg
    obtain ⟨c0, c1⟩ := hf i hi
    rw [addr_add] at c0 c1
    exact ⟨c0, c1⟩
  · rw [List.getElem?_eq_none (by simpa using hi)] at hg
    cases hg
theorem hany_cell_at {t : TypeId} {base n : Nat} {spare : Nat → Bool} {held : Bool} {l : List Value} {i o : Nat} {x : Value} {xs : List (DataW H × List MemPlace)} (h1 : P.cellsOf t = 1) (hx : l[o]? = some x) (hi : i < xs.length)
    (h : DataW.trod enc P w base spare held n t ((l.drop o).take (P.cellsOf t)) = xs[i]?) : ∃ y, DataW.trod enc P w base spare held n t [x] = some y := by
  rw [h1, List.getElem?_eq_getElem hi] at h
  obtain ⟨ho, rfl⟩ := List.getElem?_eq_some_iff.1 hx
  rw [List.drop_eq_getElem_cons ho] at h
  exact ⟨_, h⟩
end
set_option maxRecDepth 100000 in
theorem open_head_fds {H : Type} {enc : TypeId × Value → H} {W : World} {base : Nat} {v : Value} {x : DataW H × List MemPlace} {fuel : Nat} (hv : Value.okWide Tryz.prog W .any base 24 v)
    (hf : DataW.trod enc Tryz.prog W 0 (fun _ => true) true fuel 24 v.cells.toList = some x) : ∃ m t r k n A len cap, v = .agg #[.string m, .string t, .int .i64 k, .int .i64 n, .string r, .slice A len cap] ∧ -9223372036854775808 ≤ n ∧ n ≤ 9223372036854775807 ∧ len ≤ 9223372036854775807 ∧ ∃ l, Fds W A len l := by
  have oI : Tryz.prog.cellsOf 3 = 1 := by kernel_rfl
  have oS : Tryz.prog.cellsOf 9 = 1 := by kernel_rfl
  have oF : Tryz.prog.cellsOf 22 = 1 := by kernel_rfl
  obtain ⟨cs, rfl, hsz⟩ := okWide_struct Tryz.underlying24 hv
  have hC : Tryz.prog.cellsOf 24 = 6 := by kernel_rfl
  obtain ⟨l⟩ := cs
  obtain ⟨c0, c1, c2, c3, c4, c5, rfl⟩ := list6 l (hsz.trans hC)
  obtain ⟨xs, n, _, hx, _, hlen, hg⟩ := DataW.trod_struct Tryz.underlying24 hf
  have hlen : xs.length = 6 := hlen
  obtain ⟨m, rfl, _⟩ := str_cell_at Tryz.underlying9 oS (o := 0) (i := 0) (x := c0) rfl (by omega) (hg 0 _ rfl)
  obtain ⟨t, rfl, _⟩ := str_cell_at Tryz.underlying9 oS (o := 1) (i := 1) (x := c1) rfl (by omega) (hg 1 _ rfl)
  obtain ⟨k, rfl, _⟩ := int_cell_at Tryz.underlying3 oI (o := 2) (i := 2) (x := c2) rfl (by omega) (hg 2 _ rfl)
  obtain ⟨n', rfl, h1, h2⟩ := int_cell_at Tryz.underlying3 oI (o := 3) (i := 3) (x := c3) rfl (by omega) (hg 3 _ rfl)
  obtain ⟨r, rfl, _⟩ := str_cell_at Tryz.underlying9 oS (o := 4) (i := 4) (x := c4) rfl (by omega) (hg 4 _ rfl)
  obtain ⟨y, hy⟩ := hany_cell_at oF (o := 5) (i := 5) (x := c5) rfl (by omega) (hg 5 _ rfl)
  obtain ⟨A, len, cap, rfl, hl, hF⟩ := open_hfds (ts := 9) Tryz.underlying22 Tryz.underlying70 (by kernel_rfl) (by kernel_rfl) rfl rfl Tryz.underlying9 hy
  exact ⟨m, t, r, k, n', A, len, cap, rfl, h1, h2, hl, hF⟩
end Go.Proofs.YtcpjkemjpgggcaaGreatDoor

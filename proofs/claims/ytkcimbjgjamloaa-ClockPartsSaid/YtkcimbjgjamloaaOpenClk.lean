/- A slice of structs of three numbers, opened to its cells. -/
import Derived.Test.YtkcimbjgjamloaaOpenHead
import Derived.Test.YtkcimbjgjamloaaBase
import Derived.Deep.Slices
import Derived.Deep.Fields
import Derived.ChangeSame
namespace Go.Proofs.Ytkcimbjgjamloaa
open Go.RowKit Go.ChangeShapes Go.WideShapes Go.Deep
/-- Three numbers. -/
abbrev A3 := Int × Int × Int
/-- They are the program's. -/
def A3.fits (x : A3) : Prop := (-9223372036854775808 ≤ x.1 ∧ x.1 ≤ 9223372036854775807) ∧ (-9223372036854775808 ≤ x.2.1 ∧ x.2.1 ≤ 9223372036854775807) ∧ -9223372036854775808 ≤ x.2.2 ∧ x.2.2 ≤ 9223372036854775807
/-- v is a slice that reads as these. -/
def Acts3 (w : World) (v : Value) (l : List A3) : Prop :=
  ∃ p c, v = .slice p l.length c ∧ ∀ i (h : i < l.length), l[i].fits ∧ ∃ b off, p = some ⟨b, off, none⟩ ∧ w.cell? ⟨b, off + i * 3, none⟩ = some (.int .i64 l[i].1) ∧ w.cell? ⟨b, off + i * 3 + 1, none⟩ = some (.int .i64 l[i].2.1) ∧ w.cell? ⟨b, off + i * 3 + 2, none⟩ = some (.int .i64 l[i].2.2)
section
variable {H : Type} {enc : TypeId × Value → H} {P : Program} {w : World}
theorem cell_one {fs : Array Field} {spare : Nat → Bool} {held : Bool} {n : Nat} {cs : List Value} {xs : List (DataW H × List MemPlace)}
    (hone : oneCellFields P fs = true) (hlen : cs.length = fs.size)
    (hf : ∀ (i : Nat) (f : Field), fs[i]? = some f → DataW.trod enc P w 0 spare held n f.type ((cs.drop f.offset).take (P.cellsOf f.type)) = xs[i]?) (hx : xs.length = fs.size) {j : Nat} {f : Field} (hj : fs[j]? = some f) :
    ∃ v y, cs[j]? = some v ∧ DataW.trod enc P w 0 spare held n f.type [v] = some y := by
  obtain ⟨ho, hk⟩ := hone_of hone j f hj
  have hjl : j < fs.size := (Array.getElem?_eq_some_iff.1 hj).1
  have h1 := hf j f hj
  rw [ho, hk] at h1
  have h2 : (cs.drop j).take 1 = [cs[j]'(by omega)] := by
    rw [List.drop_eq_getElem_cons (by omega)]
    rfl
  rw [h2, List.getElem?_eq_getElem (show j < xs.length by omega)] at h1
  exact ⟨_, _, List.getElem?_eq_getElem (by omega), h1⟩
theorem wf_bounds {n : Int} (h : (Lit.int .i64 n).wf = true) : -9223372036854775808 ≤ n ∧ n ≤ 9223372036854775807 := by
  simp only [Lit.wf, Bool.and_eq_true, decide_eq_true_eq] at h
  exact h
theorem open_acts3 {t e ti : TypeId} {f0 f1 f2 : Field} {fuel : Nat} {v : Value} {x : DataW H × List MemPlace} (ht : P.underlying t = some (.slice e)) (he : P.underlying e = some (.struct #[f0, f1, f2]))
    (hone : oneCellFields P #[f0, f1, f2] = true) (hC : P.cellsOf e = 3) (e0 : f0.type = ti) (e1 : f1.type = ti) (e2 : f2.type = ti) (hti : P.underlying ti = some (.int .i64))
    (h : DataW.trod enc P w 0 (fun _ => true) true fuel t [v] = some x) : ∃ l, Acts3 w v l ∧ l.length ≤ 9223372036854775807 := by
  rcases open_slice ht h with ⟨hcs, _⟩ | ⟨a, len, cap, m, n, D, Pl, hcs, _, hl, hm, hmm, _, hi⟩
  · simp only [List.cons.injEq, and_true] at hcs
    exact ⟨[], ⟨none, 0, hcs, fun i h => absurd h (Nat.not_lt_zero _)⟩, Nat.zero_le _⟩
  simp only [List.cons.injEq, and_true] at hcs
  have hlm : len ≤ m := by rw [hmm]; split <;> omega
  have hel : ∀ i, i < len → ∃ g : A3, g.fits ∧ w.cell? (a.add (i * 3)) = some (.int .i64 g.1) ∧ w.cell? (a.add (i * 3 + 1)) = some (.int .i64 g.2.1) ∧ w.cell? (a.add (i * 3 + 2)) = some (.int .i64 g.2.2) := by
    intro i hil
    obtain ⟨cs', hc, ht'⟩ := hi i (by omega)
    rw [hC] at hc
    obtain ⟨xs, n', _, _, hlen, hxl, hf⟩ := DataW.trod_struct he ht'
    rw [hC] at hlen
    obtain ⟨_, hcl, hat⟩ := World.cells?_some hc
    obtain ⟨v0, y0, g0, t0⟩ := cell_one hone hlen hf hxl (j := 0) (f := f0) rfl
    obtain ⟨v1, y1, g1, t1⟩ := cell_one hone hlen hf hxl (j := 1) (f := f1) rfl
    obtain ⟨v2, y2, g2, t2⟩ := cell_one hone hlen hf hxl (j := 2) (f := f2) rfl
    rw [e0] at t0
    rw [e1] at t1
    rw [e2] at t2
    obtain ⟨s0, q0, _, w0⟩ := DataW.trod_int hti t0
    obtain ⟨s1, q1, _, w1⟩ := DataW.trod_int hti t1
    obtain ⟨s2, q2, _, w2⟩ := DataW.trod_int hti t2
    simp only [List.cons.injEq, and_true] at q0 q1 q2
    subst q0 q1 q2
    have a0 := hat 0 (by omega)
    have a1 := hat 1 (by omega)
    have a2 := hat 2 (by omega)
    rw [g0] at a0
    rw [g1] at a1
    rw [g2] at a2
    refine ⟨⟨s0, s1, s2⟩, ⟨wf_bounds w0, wf_bounds w1, wf_bounds w2⟩, ?_, ?_, ?_⟩
    · rw [Go.Deep.add_add] at a0; exact a0
    · rw [Go.Deep.add_add] at a1; exact a1
    · rw [Go.Deep.add_add] at a2; exact a2
  obtain ⟨f, hf⟩ : ∃ f : Nat → A3, ∀ i, i < len → (f i).fits ∧ w.cell? (a.add (i * 3)) = some (.int .i64 (f i).1) ∧ w.cell? (a.add (i * 3 + 1)) = some (.int .i64 (f i).2.1) ∧ w.cell? (a.add (i * 3 + 2)) = some (.int .i64 (f i).2.2) :=
    ⟨fun i => if h : i < len then Classical.choose (hel i h) else ⟨0, 0, 0⟩, fun i h => by
      simp only [dif_pos h]
      exact Classical.choose_spec (hel i h)⟩
  refine ⟨(List.range len).map f, ⟨some a, cap, by rw [hcs, List.length_map, List.length_range], fun i hi' => ?_⟩, by unfold maxLen at hm; rw [List.length_map, List.length_range]; omega⟩
  have hil : i < len := by simpa using hi'
  rw [List.getElem_map, List.getElem_range]
  obtain ⟨c0, c1, c2, c3⟩ := hf i hil
  refine ⟨c0, ?_⟩
  obtain ⟨b, off, spot⟩ := a
  have hs : spot = none := by
    have := (hf 0 (by omega)).2.1
    simpa [Addr.add] using World.cell?_spot this
  subst hs
  rw [addr_add] at c1 c2 c3
  exact ⟨b, off, rfl, c1, by rw [Nat.add_assoc]; exact c2, by rw [Nat.add_assoc]; exact c3⟩
end
end Go.Proofs.Ytkcimbjgjamloaa

/- A slice of numbers, opened to its cells. -/
import Derived.Test.YtkcimbjgjamloaaOpenClk
import Derived.Test.YtkcimbjgjamloaaNums
namespace Go.Proofs.Ytkcimbjgjamloaa
open Go.RowKit Go.ChangeShapes Go.WideShapes Go.Deep
theorem open_numbers {H : Type} {enc : TypeId × Value → H} {P : Program} {w : World} {t e : TypeId} {fuel : Nat} {v : Value} {x : DataW H × List MemPlace} (ht : P.underlying t = some (.slice e)) (he : P.underlying e = some (.int .i64)) (hC : P.cellsOf e = 1)
    (h : DataW.trod enc P w 0 (fun _ => true) true fuel t [v] = some x) : ∃ l, Nums w v l ∧ l.length ≤ 9223372036854775807 := by
  rcases open_slice ht h with ⟨hcs, _⟩ | ⟨a, len, cap, m, n, D, Pl, hcs, _, hl, hm, hmm, _, hi⟩
  · simp only [List.cons.injEq, and_true] at hcs
    exact ⟨[], ⟨none, 0, hcs, fun i h => absurd h (Nat.not_lt_zero _)⟩, Nat.zero_le _⟩
  simp only [List.cons.injEq, and_true] at hcs
  have hlm : len ≤ m := by rw [hmm]; split <;> omega
  have hel : ∀ i, i < len → ∃ k : Int, w.cell? (a.add i) = some (.int .i64 k) := by
    intro i hil
    obtain ⟨cs', hc, ht'⟩ := hi i (by omega)
    rw [hC, Nat.mul_one] at hc
    obtain ⟨k, q, _, wk⟩ := DataW.trod_int he ht'
    obtain ⟨_, hcl, hat⟩ := World.cells?_some hc
    have a0 := hat 0 (by omega)
    rw [q] at a0
    rw [Go.Deep.add_add, Nat.add_zero] at a0
    exact ⟨k, a0⟩
  obtain ⟨f, hf⟩ : ∃ f : Nat → Int, ∀ i, i < len → w.cell? (a.add i) = some (.int .i64 (f i)) :=
    ⟨fun i => if h : i < len then Classical.choose (hel i h) else 0, fun i h => by
      simp only [dif_pos h]
      exact Classical.choose_spec (hel i h)⟩
  refine ⟨(List.range len).map f, ⟨some a, cap, by rw [hcs, List.length_map, List.length_range], fun i hi' => ?_⟩, by unfold maxLen at hm; rw [List.length_map, List.length_range]; omega⟩
  have hil : i < len := by simpa using hi'
  rw [List.getElem_map, List.getElem_range]
  have c1 := hf i hil
  obtain ⟨b, off, spot⟩ := a
  have hs : spot = none := by
    have := hf 0 (by omega)
    simpa [Addr.add] using World.cell?_spot this
  subst hs
  rw [addr_add] at c1
  exact ⟨b, off, rfl, c1⟩
end Go.Proofs.Ytkcimbjgjamloaa

/- An argument that is a slice of steps (two ints and a text each), opened to its cells. -/
import Derived.Test.YtekbmefdaepgcaaQueueLaw
import Derived.Deep.Slices
import Derived.Deep.Fields
import Derived.ChangeSame
import Derived.ProofKit
namespace Go.Proofs.Ytekbmefdaepgcaa
open Go.RowKit Go.ChangeShapes Go.WideShapes Go.Deep
section
variable {H : Type} {enc : TypeId × Value → H} {P : Program} {w : World}
theorem one_field {fs : Array Field} {e : TypeId} {spare : Nat → Bool} {held : Bool} {n : Nat} {cs : List Value} {xs : List (DataW H × List MemPlace)}
    (hone : oneCellFields P fs = true) (hlen : cs.length = fs.size)
    (hf : ∀ (i : Nat) (f : Field), fs[i]? = some f → DataW.trod enc P w 0 spare held n f.type ((cs.drop f.offset).take (P.cellsOf f.type)) = xs[i]?) (hx : xs.length = fs.size) {j : Nat} {f : Field} (hj : fs[j]? = some f) (_he : e = f.type) :
    ∃ v y, cs[j]? = some v ∧ DataW.trod enc P w 0 spare held n f.type [v] = some y := by
  obtain ⟨ho, hk⟩ := hone_of hone j f hj
  have hjl : j < fs.size := (Array.getElem?_eq_some_iff.1 hj).1
  have h1 := hf j f hj
  rw [ho, hk] at h1
  have h2 : (cs.drop j).take 1 = [cs[j]'(by omega)] := by
    rw [List.drop_eq_getElem_cons (by omega)]
    rfl
  rw [h2, List.getElem?_eq_getElem (show j < xs.length by omega)] at h1
  exact ⟨_, _, List.getElem?_eq_getElem (by omega), h1⟩
theorem wf_i64 {n : Int} (h : (Lit.int .i64 n).wf = true) : -9223372036854775808 ≤ n ∧ n ≤ 9223372036854775807 := by
  simp only [Lit.wf, Bool.and_eq_true, decide_eq_true_eq] at h
  exact h
theorem open_acts {t e ti ts : TypeId} {f0 f1 f2 : Field} {fuel : Nat} {A : Option Addr} {len cap : Nat} {x : DataW H × List MemPlace} (ht : P.underlying t = some (.slice e)) (he : P.underlying e = some (.struct #[f0, f1, f2]))
    (hone : oneCellFields P #[f0, f1, f2] = true) (hC : P.cellsOf e = 3) (e0 : f0.type = ti) (e1 : f1.type = ti) (e2 : f2.type = ts) (hti : P.underlying ti = some (.int .i64)) (hts : P.underlying ts = some .string)
    (h : DataW.trod enc P w 0 (fun _ => true) true fuel t [.slice A len cap] = some x) : len ≤ 9223372036854775807 ∧ ∃ l, Acts w A len l := by
  rcases open_slice ht h with ⟨hcs, _⟩ | ⟨a, len', cap', m, n, D, Pl, hcs, _, hl, hm, hmm, _, hi⟩
  · simp only [List.cons.injEq, Value.slice.injEq, and_true] at hcs
    obtain ⟨rfl, rfl, rfl⟩ := hcs
    exact ⟨by omega, [], rfl, fun h => absurd h (by omega), fun a ha => by cases ha⟩
  simp only [List.cons.injEq, Value.slice.injEq, and_true] at hcs
  obtain ⟨rfl, rfl, rfl⟩ := hcs
  unfold maxLen at hm
  refine ⟨by omega, ?_⟩
  have hlm : len ≤ m := by rw [hmm]; split <;> omega
  have hel : ∀ i, i < len → ∃ g : GAct, w.cell? (a.add (i * 3)) = some (.int .i64 g.op) ∧ w.cell? (a.add (i * 3 + 1)) = some (.int .i64 g.n) ∧ w.cell? (a.add (i * 3 + 2)) = some (.string g.text) ∧
      (-9223372036854775808 ≤ g.op ∧ g.op ≤ 9223372036854775807 ∧ -9223372036854775808 ≤ g.n ∧ g.n ≤ 9223372036854775807 ∧ g.text.size ≤ 9223372036854775807) := by
    intro i hil
    obtain ⟨cs', hc, ht'⟩ := hi i (by omega)
    rw [hC] at hc
    obtain ⟨xs, n', _, _, hlen, hxl, hf⟩ := DataW.trod_struct he ht'
    rw [hC] at hlen
    obtain ⟨_, hcl, hat⟩ := World.cells?_some hc
    obtain ⟨v0, y0, g0, t0⟩ := one_field (e := ti) hone hlen hf hxl (j := 0) (f := f0) rfl e0.symm
    obtain ⟨v1, y1, g1, t1⟩ := one_field (e := ti) hone hlen hf hxl (j := 1) (f := f1) rfl e1.symm
    obtain ⟨v2, y2, g2, t2⟩ := one_field (e := ts) hone hlen hf hxl (j := 2) (f := f2) rfl e2.symm
    rw [e0] at t0
    rw [e1] at t1
    rw [e2] at t2
    obtain ⟨k0, q0, _, w0⟩ := DataW.trod_int hti t0
    obtain ⟨k1, q1, _, w1⟩ := DataW.trod_int hti t1
    obtain ⟨s2, q2, _, w2⟩ := DataW.trod_string hts t2
    simp only [List.cons.injEq, and_true] at q0 q1 q2
    subst q0 q1 q2
    unfold maxLen at w2
    have b0 := wf_i64 w0
    have b1 := wf_i64 w1
    have a0 := hat 0 (by omega)
    have a1 := hat 1 (by omega)
    have a2 := hat 2 (by omega)
    rw [g0] at a0
    rw [g1] at a1
    rw [g2] at a2
    refine ⟨⟨k0, k1, s2⟩, ?_, ?_, ?_, b0.1, b0.2, b1.1, b1.2, by omega⟩
    · rw [Go.Deep.add_add] at a0; exact a0
    · rw [Go.Deep.add_add] at a1; exact a1
    · rw [Go.Deep.add_add] at a2; exact a2
  obtain ⟨f, hf⟩ : ∃ f : Nat → GAct, ∀ i, i < len → w.cell? (a.add (i * 3)) = some (.int .i64 (f i).op) ∧ w.cell? (a.add (i * 3 + 1)) = some (.int .i64 (f i).n) ∧ w.cell? (a.add (i * 3 + 2)) = some (.string (f i).text) ∧
      (-9223372036854775808 ≤ (f i).op ∧ (f i).op ≤ 9223372036854775807 ∧ -9223372036854775808 ≤ (f i).n ∧ (f i).n ≤ 9223372036854775807 ∧ (f i).text.size ≤ 9223372036854775807) :=
    ⟨fun i => if h : i < len then Classical.choose (hel i h) else ⟨0, 0, ⟨#[]⟩⟩, fun i h => by
      simp only [dif_pos h]
      exact Classical.choose_spec (hel i h)⟩
  refine ⟨(List.range len).map f, by simp, fun h0 => ?_, fun g hg => ?_⟩
  · obtain ⟨b, off, spot⟩ := a
    have h1 := (hf 0 h0).1
    have hs : spot = none := by simpa [Addr.add] using World.cell?_spot h1
    subst hs
    refine ⟨b, off, rfl, by simpa [Addr.add] using World.block_lt_of_cell? _ _ h1, fun i g hg => ?_⟩
    rw [List.getElem?_map] at hg
    rcases Nat.lt_or_ge i len with hi | hi
    · rw [List.getElem?_range hi] at hg
      simp only [Option.map_some, Option.some.injEq] at hg
      subst hg
      obtain ⟨c0, c1, c2, _⟩ := hf i hi
      rw [addr_add] at c0 c1 c2
      exact ⟨c0, c1, c2⟩
    · rw [List.getElem?_eq_none (by simpa using hi)] at hg
      cases hg
  · obtain ⟨i, hi, rfl⟩ := List.mem_map.1 hg
    exact (hf i (List.mem_range.1 hi)).2.2.2
end
end Go.Proofs.Ytekbmefdaepgcaa

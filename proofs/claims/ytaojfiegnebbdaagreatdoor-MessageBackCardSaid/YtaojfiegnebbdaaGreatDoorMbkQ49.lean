/- Texts packed for one claim, 49 of 52: OpenEnc OpenMsg. -/
import Derived.Test.YtaojfiegnebbdaaGreatDoorMbkQ34
import Derived.Test.YtaojfiegnebbdaaGreatDoorMbkQ38
import Derived.Deep.Slices
import Derived.Deep.Fields
import Derived.ChangeSame
set_option maxRecDepth 100000
set_option maxHeartbeats 16000000
set_option linter.unusedSimpArgs false
set_option linter.unusedVariables false
-- OpenEnc
namespace Go.Proofs.YtaojfiegnebbdaaGreatDoor
open Go.RowKit Go.ChangeShapes Go.WideShapes Go.Deep
section
variable {H : Type} {enc : TypeId × Value → H} {P : Program} {w : World}
theorem field_one {fs : Array Field} {spare : Nat → Bool} {held : Bool} {n : Nat} {cs : List Value} {xs : List (DataW H × List MemPlace)}
 (hone : oneCellFields P fs = true) (hlen : cs.length = fs.size)
 (hf : ∀ (i : Nat) (f : Field), fs[i]? = some f → DataW.trod enc P w 0 spare held n f.type ((cs.drop f.offset).take (P.cellsOf f.type)) = xs[i]?) (hx : xs.length = fs.size) {j : Nat} {f : Field} (hj : fs[j]? = some f) :
 ∃ v y, cs[j]? = some v ∧ DataW.trod enc P w 0 spare held n f.type [v] = some y := by
 obtain ⟨ho, hk⟩ := hone_of hone j f hj
 have hjl : j < fs.size := (Array.getElem?_eq_some_iff.1 hj).1
 have h1 := hf j f hj
 rw [ho, hk] at h1
 have h2 : (cs.drop j).take 1 = [cs[j]'(by omega)] := by
  rw [List.drop_eq_getElem_cons (by omega)]
  rfl
 rw [h2, List.getElem?_eq_getElem (show j < xs.length by omega)] at h1
 exact ⟨_, _, List.getElem?_eq_getElem (by omega), h1⟩
theorem wf_int {n : Int} (h : (Lit.int .i64 n).wf = true) : -9223372036854775808 ≤ n ∧ n ≤ 9223372036854775807 := by
 simp only [Lit.wf, Bool.and_eq_true, decide_eq_true_eq] at h
 exact h
theorem open_fds {t e ts : TypeId} {f0 f1 : Field} {fuel : Nat} {v : Value} {x : DataW H × List MemPlace} (ht : P.underlying t = some (.slice e)) (he : P.underlying e = some (.struct #[f0, f1]))
 (hone : oneCellFields P #[f0, f1] = true) (hC : P.cellsOf e = 2) (e0 : f0.type = ts) (e1 : f1.type = ts) (hts : P.underlying ts = some .string)
 (h : DataW.trod enc P w 0 (fun _ => true) true fuel t [v] = some x) : ∃ A len cap, v = .slice A len cap ∧ len ≤ 9223372036854775807 ∧ ∃ l, Fds w A len l := by
 rcases open_slice ht h with ⟨hcs, _⟩ | ⟨a, len, cap, m, n, D, Pl, hcs, _, hl, hm, hmm, _, hi⟩
 ·simp only [List.cons.injEq, and_true] at hcs
  exact ⟨none, 0, 0, hcs, by omega, [], rfl, fun h => absurd h (by omega)⟩
 simp only [List.cons.injEq, and_true] at hcs
 refine ⟨some a, len, cap, hcs, ?_, ?_⟩
 ·unfold maxLen at hm; omega
 have hlm : len ≤ m := by rw [hmm]; split <;> omega
 have hel : ∀ i, i < len → ∃ g : Fld, w.cell? (a.add (i * 2)) = some (.string g.1) ∧ w.cell? (a.add (i * 2 + 1)) = some (.string g.2) := by
  intro i hil
  obtain ⟨cs', hc, ht'⟩ := hi i (by omega)
  rw [hC] at hc
  obtain ⟨xs, n', _, _, hlen, hxl, hf⟩ := DataW.trod_struct he ht'
  rw [hC] at hlen
  obtain ⟨_, hcl, hat⟩ := World.cells?_some hc
  obtain ⟨v0, y0, g0, t0⟩ := field_one hone hlen hf hxl (j := 0) (f := f0) rfl
  obtain ⟨v1, y1, g1, t1⟩ := field_one hone hlen hf hxl (j := 1) (f := f1) rfl
  rw [e0] at t0
  rw [e1] at t1
  obtain ⟨s0, q0, _, w0⟩ := DataW.trod_string hts t0
  obtain ⟨s1, q1, _, w1⟩ := DataW.trod_string hts t1
  simp only [List.cons.injEq, and_true] at q0 q1
  subst q0 q1
  have a0 := hat 0 (by omega)
  have a1 := hat 1 (by omega)
  rw [g0] at a0
  rw [g1] at a1
  refine ⟨⟨s0, s1⟩, ?_, ?_⟩
  ·rw [Go.Deep.add_add] at a0; exact a0
  ·rw [Go.Deep.add_add] at a1; exact a1
 obtain ⟨f, hf⟩ : ∃ f : Nat → Fld, ∀ i, i < len → w.cell? (a.add (i * 2)) = some (.string (f i).1) ∧ w.cell? (a.add (i * 2 + 1)) = some (.string (f i).2) :=
  ⟨fun i => if h : i < len then Classical.choose (hel i h) else ⟨⟨#[]⟩, ⟨#[]⟩⟩, fun i h => by
   simp only [dif_pos h]
   exact Classical.choose_spec (hel i h)⟩
 refine ⟨(List.range len).map f, by simp, fun h0 => ?_⟩
 obtain ⟨b, off, spot⟩ := a
 have h1 := (hf 0 h0).1
 have hs : spot = none := by simpa [Addr.add] using World.cell?_spot h1
 subst hs
 refine ⟨b, off, rfl, by simpa [Addr.add] using World.block_lt_of_cell? _ _ h1, fun i g hg => ?_⟩
 rw [List.getElem?_map] at hg
 rcases Nat.lt_or_ge i len with hi | hi
 ·rw [List.getElem?_range hi] at hg
  simp only [Option.map_some, Option.some.injEq] at hg
  subst hg
  obtain ⟨c0, c1⟩ := hf i hi
  rw [addr_add] at c0 c1
  exact ⟨c0, c1⟩
 ·rw [List.getElem?_eq_none (by simpa using hi)] at hg
  cases hg
theorem open_nums {t e : TypeId} {fuel : Nat} {v : Value} {x : DataW H × List MemPlace} (ht : P.underlying t = some (.slice e)) (he : P.underlying e = some (.int .i64)) (hC : P.cellsOf e = 1)
 (h : DataW.trod enc P w 0 (fun _ => true) true fuel t [v] = some x) : ∃ A len cap, v = .slice A len cap ∧ len ≤ 9223372036854775807 ∧ ∃ l, Ints w A len l := by
 rcases open_slice ht h with ⟨hcs, _⟩ | ⟨a, len, cap, m, n, D, Pl, hcs, _, hl, hm, hmm, _, hi⟩
 ·simp only [List.cons.injEq, and_true] at hcs
  exact ⟨none, 0, 0, hcs, by omega, [], rfl, fun h => absurd h (by omega)⟩
 simp only [List.cons.injEq, and_true] at hcs
 refine ⟨some a, len, cap, hcs, ?_, ?_⟩
 ·unfold maxLen at hm; omega
 have hlm : len ≤ m := by rw [hmm]; split <;> omega
 have hel : ∀ i, i < len → ∃ k : Int, w.cell? (a.add i) = some (.int .i64 k) ∧ -9223372036854775808 ≤ k ∧ k ≤ 9223372036854775807 := by
  intro i hil
  obtain ⟨cs', hc, ht'⟩ := hi i (by omega)
  rw [hC, Nat.mul_one] at hc
  obtain ⟨k, q, _, wk⟩ := DataW.trod_int he ht'
  obtain ⟨_, hcl, hat⟩ := World.cells?_some hc
  have a0 := hat 0 (by omega)
  rw [q] at a0
  rw [Go.Deep.add_add, Nat.add_zero] at a0
  exact ⟨k, a0, wf_int wk⟩
 obtain ⟨f, hf⟩ : ∃ f : Nat → Int, ∀ i, i < len → w.cell? (a.add i) = some (.int .i64 (f i)) ∧ -9223372036854775808 ≤ f i ∧ f i ≤ 9223372036854775807 :=
  ⟨fun i => if h : i < len then Classical.choose (hel i h) else 0, fun i h => by
   simp only [dif_pos h]
   exact Classical.choose_spec (hel i h)⟩
 refine ⟨(List.range len).map f, by simp, fun h0 => ?_⟩
 obtain ⟨b, off, spot⟩ := a
 have h1 := (hf 0 h0).1
 have hs : spot = none := by simpa [Addr.add] using World.cell?_spot h1
 subst hs
 refine ⟨b, off, rfl, by simpa [Addr.add] using World.block_lt_of_cell? _ _ h1, fun i g hg => ?_⟩
 rw [List.getElem?_map] at hg
 rcases Nat.lt_or_ge i len with hi | hi
 ·rw [List.getElem?_range hi] at hg
  simp only [Option.map_some, Option.some.injEq] at hg
  subst hg
  obtain ⟨c0, c1⟩ := hf i hi
  rw [addr_add] at c0
  exact ⟨c0, c1⟩
 ·rw [List.getElem?_eq_none (by simpa using hi)] at hg
  cases hg
theorem any_cell_at {t : TypeId} {base n : Nat} {spare : Nat → Bool} {held : Bool} {l : List Value} {i o : Nat} {x : Value} {xs : List (DataW H × List MemPlace)} (h1 : P.cellsOf t = 1) (hx : l[o]? = some x) (hi : i < xs.length)
 (h : DataW.trod enc P w base spare held n t ((l.drop o).take (P.cellsOf t)) = xs[i]?) : ∃ y, DataW.trod enc P w base spare held n t [x] = some y := by
 rw [h1, List.getElem?_eq_getElem hi] at h
 obtain ⟨ho, rfl⟩ := List.getElem?_eq_some_iff.1 hx
 rw [List.drop_eq_getElem_cons ho] at h
 exact ⟨_, h⟩
theorem list11 {α : Type} (l : List α) (h : l.length = 11) : ∃ c0 c1 c2 c3 c4 c5 c6 c7 c8 c9 c10, l = [c0, c1, c2, c3, c4, c5, c6, c7, c8, c9, c10] := by
 match l, h with
 | [c0, c1, c2, c3, c4, c5, c6, c7, c8, c9, c10], _ => exact ⟨c0, c1, c2, c3, c4, c5, c6, c7, c8, c9, c10, rfl⟩
end
end Go.Proofs.YtaojfiegnebbdaaGreatDoor
-- OpenMsg
namespace Go.Proofs.YtaojfiegnebbdaaGreatDoor
open Go.RowKit Go.ChangeShapes Go.WideShapes Go.Deep
structure MsgArg (W : World) (m t r s : ByteArray) (k n fk fl : Int) (Af Az At : Option Addr) (lf lz lt : Nat) (fs : List Fld) (z : List Int) (tr : List Fld) : Prop where
 hn : -9223372036854775808 ≤ n ∧ n ≤ 9223372036854775807
 hfl : fl ≤ 9223372036854775807
 hs : s.size ≤ 9223372036854775807
 hlf : lf ≤ 9223372036854775807
 hlz : lz ≤ 9223372036854775807
 hlt : lt ≤ 9223372036854775807
 f : Fds W Af lf fs
 z : Ints W Az lz z
 t : Fds W At lt tr
theorem open_msg {H : Type} {enc : TypeId × Value → H} {W : World} {base : Nat} {v : Value} {x : DataW H × List MemPlace} {fuel : Nat} (hv : Value.okWide Tryz.prog W .any base 46 v)
 (hf : DataW.trod enc Tryz.prog W 0 (fun _ => true) true fuel 46 v.cells.toList = some x) : ∃ m t k n r Af lf cf fk fl s Az lz cz At lt ct, v = .agg #[.string m, .string t, .int .i64 k, .int .i64 n, .string r, .slice Af lf cf, .int .i64 fk, .int .i64 fl, .string s, .slice Az lz cz, .slice At lt ct] ∧ ∃ fs z tr, MsgArg W m t r s k n fk fl Af Az At lf lz lt fs z tr := by
 have oI : Tryz.prog.cellsOf 3 = 1 := by kernel_rfl
 have oS : Tryz.prog.cellsOf 9 = 1 := by kernel_rfl
 have oF : Tryz.prog.cellsOf 32 = 1 := by kernel_rfl
 have oZ : Tryz.prog.cellsOf 44 = 1 := by kernel_rfl
 obtain ⟨cs, rfl, hsz⟩ := okWide_struct Tryz.underlying46 hv
 have hC : Tryz.prog.cellsOf 46 = 11 := by kernel_rfl
 obtain ⟨l⟩ := cs
 obtain ⟨c0, c1, c2, c3, c4, c5, c6, c7, c8, c9, c10, rfl⟩ := list11 l (hsz.trans hC)
 obtain ⟨xs, n0, _, hx, _, hlen, hg⟩ := DataW.trod_struct Tryz.underlying46 hf
 have hlen : xs.length = 5 := hlen
 obtain ⟨s, rfl, hs⟩ := str_cell_at Tryz.underlying9 oS (o := 8) (i := 2) (x := c8) rfl (by omega) (hg 2 _ rfl)
 obtain ⟨y3, hy3⟩ := any_cell_at oZ (o := 9) (i := 3) (x := c9) rfl (by omega) (hg 3 _ rfl)
 obtain ⟨y4, hy4⟩ := any_cell_at oF (o := 10) (i := 4) (x := c10) rfl (by omega) (hg 4 _ rfl)
 obtain ⟨At, lt, ct, rfl, hlt, tr, ht⟩ := open_fds (ts := 9) Tryz.underlying32 Tryz.underlying75 (by kernel_rfl) (by kernel_rfl) rfl rfl Tryz.underlying9 hy4
 obtain ⟨Az, lz, cz, rfl, hlz, z, hz⟩ := open_nums Tryz.underlying44 Tryz.underlying3 (by kernel_rfl) hy3
 have hH := hg 0 _ rfl
 rw [List.getElem?_eq_getElem (show 0 < xs.length by omega)] at hH
 obtain ⟨hs0, n1, _, hx1, _, hlen1, hg1⟩ := DataW.trod_struct Tryz.underlying34 hH
 have hlen1 : hs0.length = 6 := hlen1
 obtain ⟨m, rfl, _⟩ := str_cell_at Tryz.underlying9 oS (o := 0) (i := 0) (x := c0) rfl (by omega) (hg1 0 _ rfl)
 obtain ⟨t, rfl, _⟩ := str_cell_at Tryz.underlying9 oS (o := 1) (i := 1) (x := c1) rfl (by omega) (hg1 1 _ rfl)
 obtain ⟨k, rfl, _⟩ := int_cell_at Tryz.underlying3 oI (o := 2) (i := 2) (x := c2) rfl (by omega) (hg1 2 _ rfl)
 obtain ⟨n', rfl, hn⟩ := int_cell_at Tryz.underlying3 oI (o := 3) (i := 3) (x := c3) rfl (by omega) (hg1 3 _ rfl)
 obtain ⟨r, rfl, _⟩ := str_cell_at Tryz.underlying9 oS (o := 4) (i := 4) (x := c4) rfl (by omega) (hg1 4 _ rfl)
 obtain ⟨y5, hy5⟩ := any_cell_at oF (o := 5) (i := 5) (x := c5) rfl (by omega) (hg1 5 _ rfl)
 obtain ⟨Af, lf, cf, rfl, hlf, fs, hF⟩ := open_fds (ts := 9) Tryz.underlying32 Tryz.underlying75 (by kernel_rfl) (by kernel_rfl) rfl rfl Tryz.underlying9 hy5
 have hR := hg 1 _ rfl
 rw [List.getElem?_eq_getElem (show 1 < xs.length by omega)] at hR
 obtain ⟨rs0, n2, _, hx2, _, hlen2, hg2⟩ := DataW.trod_struct Tryz.underlying37 hR
 have hlen2 : rs0.length = 2 := hlen2
 obtain ⟨fk, rfl, _⟩ := int_cell_at Tryz.underlying3 oI (o := 0) (i := 0) (x := c6) rfl (by omega) (hg2 0 _ rfl)
 obtain ⟨fl, rfl, hfl⟩ := int_cell_at Tryz.underlying3 oI (o := 1) (i := 1) (x := c7) rfl (by omega) (hg2 1 _ rfl)
 exact ⟨m, t, k, n', r, Af, lf, cf, fk, fl, s, Az, lz, cz, At, lt, ct, rfl, fs, z, tr, hn, hfl.2, hs, hlf, hlz, hlt, hF, hz, ht⟩
end Go.Proofs.YtaojfiegnebbdaaGreatDoor
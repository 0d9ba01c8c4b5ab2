/- Tick, in memory: what its loops hold on to; what slices.SortFunc leaves. -/
import Derived.Test.YtkcimbjgjamloaaTickPlain
import Derived.Test.YtkcimbjgjamloaaNums
namespace Go.Proofs.Ytkcimbjgjamloaa
open Go.RowKit Go.Maps Clk Go.Sort Go.Lib
theorem blk_but {w w' : World} {row : Option Nat} {g : Nat} {cs : Array Value} {t : TypeId} (h : Blk w g cs t) (hg : w.grownBy w' row) (hne : row ≠ some g) : Blk w' g cs t := (hg.block g h.lt (fun e => hne e.symm)).trans h
/-- The first loop under way. -/
structure TickS (W0 : World) (g b n : Nat) (nw : Int) (D : DataW Unit) (left : Lit → Bool) (cnt m : Nat) (E : DataW Unit) (ks : List Int) (v : Value) (wr : World) : Prop where
  rg : wr.ranges Try.prog 3 (plainElem Try.prog 3) b (W0.heap.size + 2) n D left cnt
  c : Blk wr g #[.int .i64 nw, .map (some b)] 68
  vr : Blk wr (W0.heap.size + 1) #[.map (some W0.heap.size)] 66
  am : wr.ownsMap Try.prog 3 (plainElem Try.prog 3) W0.heap.size m E
  ow : wr.ownsRow (W0.heap.size + 3) 3 1 v ks.length (ks.map (Value.int .i64))
  sz : W0.heap.size + 3 ≤ wr.heap.size
  u : Touch (fun j => j = g) W0 wr
  gl : g < W0.heap.size
  bl : b < W0.heap.size
section
variable {W0 : World} {g b n : Nat} {nw : Int} {D : DataW Unit} {left left' : Lit → Bool} {cnt cnt' m m' : Nat} {E E' : DataW Unit} {ks : List Int} {v v' : Value} {wr w1 : World}
theorem TickS.touch {row : Option Nat} (u : Touch (fun j => j = g) W0 wr) (hg : wr.grownBy w1 row) (hr : ∀ j, row = some j → W0.heap.size ≤ j) : Touch (fun j => j = g) W0 w1 :=
  ⟨hg.os.trans u.os, hg.tape.trans u.tape, hg.output.trans u.output, Nat.le_trans u.size hg.size, fun i hi hp => (hg.block i (Nat.lt_of_lt_of_le hi u.size) (fun e => by have := hr i e.symm; omega)).trans (u.block i hi hp)⟩
theorem TickS.next (S : TickS W0 g b n nw D left cnt m E ks v wr) (hrg : w1.ranges Try.prog 3 (plainElem Try.prog 3) b (W0.heap.size + 2) n D left' cnt') (hg : wr.grownBy w1 (some (W0.heap.size + 2))) : TickS W0 g b n nw D left' cnt' m E ks v w1 where
  rg := hrg
  c := blk_but S.c hg (fun e => by have := S.gl; cases e; omega)
  vr := blk_but S.vr hg (fun e => by injection e with e; omega)
  am := S.am.kept hg (fun e => by injection e with e; omega)
  ow := S.ow.kept hg (by
    cases hv : v.ownBlock with
    | none => exact Or.inl rfl
    | some k => right; have := (S.ow.lt k hv).1; intro e; injection e with e; omega)
  sz := Nat.le_trans S.sz hg.size
  u := TickS.touch S.u hg (fun j hj => by cases hj; omega)
  gl := S.gl
  bl := S.bl
theorem TickS.put (S : TickS W0 g b n nw D left cnt m E ks v wr) (ho : w1.ownsMap Try.prog 3 (plainElem Try.prog 3) W0.heap.size m' E') (hg : wr.grownBy w1 (some W0.heap.size)) : TickS W0 g b n nw D left cnt m' E' ks v w1 where
  rg := S.rg.kept hg (fun e => by have := S.bl; injection e with e; omega) (fun e => by injection e with e; omega)
  c := blk_but S.c hg (fun e => by have := S.gl; cases e; omega)
  vr := blk_but S.vr hg (fun e => by injection e with e; omega)
  am := ho
  ow := S.ow.kept hg (by
    cases hv : v.ownBlock with
    | none => exact Or.inl rfl
    | some k => right; have := (S.ow.lt k hv).1; intro e; injection e with e; omega)
  sz := Nat.le_trans S.sz hg.size
  u := TickS.touch S.u hg (fun j hj => by cases hj; omega)
  gl := S.gl
  bl := S.bl
theorem TickS.app (S : TickS W0 g b n nw D left cnt m E ks v wr) (x : Int) {ob : Obj} (ho : w1.ownsRow (W0.heap.size + 3) 3 1 v' (ks.length + 1) (ks.map (Value.int .i64) ++ [.int .i64 x])) (hg : (wr.alloc ob).grownBy w1 v.ownBlock) : TickS W0 g b n nw D left cnt m E (ks ++ [x]) v' w1 := by
  have hlo : ∀ k, v.ownBlock = some k → W0.heap.size + 3 ≤ k := fun k hk => (S.ow.lt k hk).1
  have hg' : wr.grownBy w1 v.ownBlock := ⟨hg.os, hg.tape, hg.output, Nat.le_trans (by simp) hg.size, fun k hk hne => (hg.block k (by simp; omega) hne).trans (Below.heap_alloc wr ob k hk)⟩
  have hb := S.bl
  have hgl := S.gl
  refine ⟨S.rg.kept hg' (fun e => ?_) (fun e => ?_), blk_but S.c hg' (fun e => ?_), blk_but S.vr hg' (fun e => ?_), S.am.kept hg' (fun e => ?_), ?_, Nat.le_trans S.sz hg'.size, TickS.touch S.u hg' (fun j hj => by have := hlo j hj; omega), hgl, hb⟩
  · have := hlo _ e.symm; omega
  · have := hlo _ e.symm; omega
  · have := hlo _ e; omega
  · have := hlo _ e; omega
  · have := hlo _ e.symm; omega
  · rw [List.length_append, List.map_append]; exact ho
end
theorem touch_sortWorld (enc : I64 → Value) (w : World) (blk off m : Nat) (dk : Array I64) (os : Array Obj) : Touch (fun j => j = blk) w (sortWorld enc w blk off m dk os) :=
  ⟨rfl, rfl, rfl, by unfold sortWorld; rw [size_grow, size_putRow]; show w.heap.size ≤ w.heap.size + _; omega, fun k hk hne => sortWorld_other hne hk⟩
/-- slices.SortFunc under Tick's closure. -/
theorem sort_any {W0 : World} {g b n : Nat} {nw : Int} {D : DataW Unit} {left : Lit → Bool} {cnt m : Nat} {E : DataW Unit} {ks : List Int} {v : Value} {wr : World} {l : List Rw} (S : TickS W0 g b n nw D left cnt m E ks v wr) (hM : Met l nw left ks E) (hl : ∀ k, left k = false) (h1 : One l) (hz : ks.length ≤ 1000) :
    Calls Try.prog 36 #[v, .func (.func 37) #[] #[.pointer (some ⟨W0.heap.size + 1, 0, none⟩)]] wr fun e w' => e = .returned (.tuple #[]) ∧ NumsB (W0.heap.size + 3) w' v (dueIds l nw) ∧ Touch (fun j => W0.heap.size + 3 ≤ j) wr w' := by
  have hsort := hM.sorted hl h1
  obtain ⟨hxs, hrow⟩ := S.ow
  rcases hrow with ⟨rfl, h0⟩ | ⟨og, cap, cur, rfl, hB, hog, hn1, hn2, hn3, hn4⟩
  · have : ks = [] := List.eq_nil_of_length_eq_zero h0
    subst this
    have hd : dueIds l nw = [] := by rw [← hsort, List.mergeSort_nil]
    rw [hd]
    refine (Try.slices_SortFunc_none (α := Int) none 0 _ wr).mono ?_
    rintro e w' ⟨rfl, rfl⟩
    exact ⟨rfl, ⟨none, 0, rfl, fun _ => rfl, fun i hi => absurd hi (Nat.not_lt_zero _)⟩, Touch.refl _ _⟩
  · rw [Nat.mul_one] at hn4
    by_cases hk0 : ks.length = 0
    · have : ks = [] := List.eq_nil_of_length_eq_zero hk0
      subst this
      have hd : dueIds l nw = [] := by rw [← hsort, List.mergeSort_nil]
      rw [hd]
      refine (Try.slices_SortFunc_none (α := Int) (some ⟨og, 0, none⟩) cap _ wr).mono ?_
      rintro e w' ⟨rfl, rfl⟩
      exact ⟨rfl, ⟨_, cap, rfl, (fun h => by cases h), fun i hi => absurd hi (Nat.not_lt_zero _)⟩, Touch.refl _ _⟩
    · obtain ⟨d, hd⟩ : ∃ d : List I64, d.map (fun x => x.1) = ks := ⟨ks.attach.map (fun x => ⟨x.1, hM.wf x.1 x.2⟩), by simp [List.map_map, Function.comp_def]⟩
      have hdl : d.length = ks.length := by rw [← hd, List.length_map]
      have hds : d.toArray.size = ks.length := by simpa using hdl
      have eg : ∀ args w, (callFunc 37 args).run Try.prog w = .ok (.enter 37 args) w := enters_of Try.func37 (by kernel_rfl) rfl
      have hogl : og < wr.heap.size := (Array.getElem?_eq_some_iff.1 hog).1
      have hv1 : W0.heap.size + 1 ≠ og := by omega
      have ha1 : W0.heap.size ≠ og := by omega
      have hcells : ∀ j, j < d.toArray.size → wr.cell? ⟨og, 0 + j, none⟩ = some (encI d.toArray[j]!) ∧ wr.frozen? ⟨og, 0 + j, none⟩ = false := by
        intro j hj
        have hjd : j < d.length := by simpa using hj
        have a : (ks.map (Value.int .i64))[j]? = some (encI d.toArray[j]!) := by
          rw [← hd, List.map_map, List.getElem?_map, List.getElem?_eq_getElem hjd]
          simp only [Option.map_some, Function.comp_def, encI]
          rw [getElem!_pos d.toArray j hj]
          rfl
        rw [← hn4, List.getElem?_take, if_pos (by omega), Array.getElem?_toList] at a
        rw [Nat.zero_add]
        constructor
        · simp only [World.cell?, hog]; exact a
        · simp [World.frozen?, hog]
      have hcon := Try.slices_SortFunc_total encI (fun _ => rfl) (fun a b : I64 => cmpT E a.1 b.1) (swoT E) 37 #[.pointer (some ⟨W0.heap.size + 1, 0, none⟩)] og 0 cap d.toArray wr eg (cmpLays og 0 _ S.vr S.am hv1 ha1) hcells hogl (by rw [hds]; omega) (totT E)
      rw [hds] at hcon
      refine hcon.mono ?_
      rintro e w' ⟨rfl, q, os, rfl⟩
      refine ⟨rfl, ?_, (touch_sortWorld _ _ _ _ _ _ _).mono (fun j _ hj => by rw [hj]; exact hB)⟩
      have hres : (d.mergeSort fun x y => !ltOf (fun a b : I64 => cmpT E a.1 b.1) y x).map (fun x => x.1) = dueIds l nw := by rw [sort_map, hd]; exact hsort
      obtain ⟨dd, hdd⟩ : ∃ dd, dd = d.mergeSort fun x y => !ltOf (fun a b : I64 => cmpT E a.1 b.1) y x := ⟨_, rfl⟩
      have hddl : dd.length = ks.length := by rw [hdd, List.length_mergeSort, hdl]
      show NumsB _ (sortWorld encI wr og 0 q (d.toArray.toList.mergeSort _).toArray os) _ _
      rw [List.toList_toArray, ← hdd]
      rw [← hdd] at hres
      rw [← hres]
      refine ⟨some ⟨og, 0, none⟩, cap, by rw [List.length_map, hddl], (fun h => by cases h), fun i hi => ⟨og, 0, hB, rfl, ?_⟩⟩
      have hH : Holds encI (sortWorld encI wr og 0 q dd.toArray os) og 0 dd.toArray := holds_sortWorld encI wr og 0 q d.toArray dd.toArray os hogl hcells (by simp [hddl, hdl])
      have hi' : i < dd.toArray.size := by simpa using hi
      rw [(hH i hi').1, getElem!_pos dd.toArray i hi']
      simp [encI]
end Go.Proofs.Ytkcimbjgjamloaa

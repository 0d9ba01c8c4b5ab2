/- Tick's order: by when, then by who: its closure, cmp.Or, and what slices.SortFunc hands back under it. -/
import Derived.Test.YtkcimbjgjamloaaClockSet
import Derived.Test.YtkcimbjgjamloaaShelf
namespace Go.Proofs.Ytkcimbjgjamloaa
open Go.RowKit Go.Maps Clk Go.Sort Go.Lib
def orI (x y : Int) : Int := if x = 0 then y else x
set_option maxRecDepth 100000 in
theorem or_any (x y : Int) (b c : Nat) (w : World) (h0 : w.cell? ⟨b, 0, none⟩ = some (.int .i64 x)) (h1 : w.cell? ⟨b, 1, none⟩ = some (.int .i64 y)) :
    Calls Try.prog 38 #[.slice (some ⟨b, 0, none⟩) 2 c] w fun e w' => e = .returned (.int .i64 (orI x y)) ∧ w = w' := by
  by_cases hx : x = 0
  · have HV : Hid (orI x y = y) := by show orI x y = y; unfold orI; rw [if_pos hx]
    subst hx
    by_cases hy : y = 0
    · subst hy
      go_enter Try.func38, Try.ntmps38
      go_wp2_with fail
      refine wp_loop_rounds 3 ?_
      rw [rounds_succ]
      go_wp2_with fail
      rw [rounds_succ]
      go_wp2_with fail
      rw [rounds_succ]
      go_wp2_with fail
      go_ret
      rw [HV.out]
      exact ⟨rfl, rfl⟩
    · have hy1 : (y != 0) = true := by rw [bne_iff_ne]; exact hy
      have hy2 : (y == 0) = false := by rw [beq_eq_false_iff_ne]; exact hy
      clear hy
      go_enter Try.func38, Try.ntmps38
      go_wp2_with fail
      refine wp_loop_rounds 2 ?_
      rw [rounds_succ]
      go_wp2_with fail
      rw [rounds_succ]
      go_wp2_with fail
      go_ret
      rw [HV.out]
      exact ⟨rfl, rfl⟩
  · have HV : Hid (orI x y = x) := by show orI x y = x; unfold orI; rw [if_neg hx]
    have hx1 : (x != 0) = true := by rw [bne_iff_ne]; exact hx
    have hx2 : (x == 0) = false := by rw [beq_eq_false_iff_ne]; exact hx
    clear hx
    go_enter Try.func38, Try.ntmps38
    go_wp2_with fail
    refine wp_loop_rounds 1 ?_
    rw [rounds_succ]
    go_wp2_with fail
    go_ret
    rw [HV.out]
    exact ⟨rfl, rfl⟩
/-- What the map holds at a key. -/
def timeOf (D : DataW Unit) (k : Int) : Int := match D.atKey (.int .i64 k) (.lit (.int .i64 0)) with
  | .lit (.int _ t) => t
  | _ => 0
theorem timeOf_eq {D : DataW Unit} {k c : Int} (h : D.atKey (.int .i64 k) (.lit (.int .i64 0)) = .lit (.int .i64 c)) : timeOf D k = c := by unfold timeOf; rw [h]
def cmpT (D : DataW Unit) (x y : Int) : Int := orI (compareInt (timeOf D x) (timeOf D y)) (compareInt x y)
set_option maxRecDepth 100000 in
theorem closure_any {D : DataW Unit} {vb ab n : Nat} {w : World} (hc : w.cell? ⟨vb, 0, none⟩ = some (.map (some ab))) (hm : w.ownsMap Try.prog 3 (plainElem Try.prog 3) ab n D) (x y : Int) (hx : (Lit.int .i64 x).wf = true) (hy : (Lit.int .i64 y).wf = true) :
    Calls Try.prog 37 #[.int .i64 x, .int .i64 y, .pointer (some ⟨vb, 0, none⟩)] w fun e w' => e = .returned (.int .i64 (cmpT D x y)) ∧ ∃ q os, w' = grow (w.drewN q) os := by
  have HM := Lib.hid hm
  have HX := Lib.hid hx
  have HY := Lib.hid hy
  have hcm : ∀ (a b : Int) W, Calls Try.prog 39 #[.int .i64 a, .int .i64 b] W fun e w' => e = .returned (.int .i64 (compareInt a b)) ∧ W = w' := fun a b W => (Try.cmp_Compare_int a b W).mono fun _ _ ⟨p, q⟩ => ⟨p, q.symm⟩
  have HOR : Hid (∀ (a b : Int) (c : Nat), Calls Try.prog 38 #[.slice (some ⟨w.heap.size, 0, none⟩) 2 c] (w.alloc (.cells #[.int .i64 a, .int .i64 b] 3)) fun e w' => e = .returned (.int .i64 (orI a b)) ∧ w.alloc (.cells #[.int .i64 a, .int .i64 b] 3) = w') := fun a b c => or_any a b _ c _ ((Blk.new w #[.int .i64 a, .int .i64 b] 3).cell 0) ((Blk.new w #[.int .i64 a, .int .i64 b] 3).cell 1)
  obtain ⟨CI, hCI⟩ : ∃ f : Int → Int → Int, f = compareInt := ⟨_, rfl⟩
  rw [← hCI] at hcm
  have HCM := Lib.hid hcm
  have HV : Hid (∀ c d, timeOf D x = c → timeOf D y = d → orI (CI c d) (CI x y) = cmpT D x y) := by
    show ∀ c d, _ → _ → _
    rintro c d rfl rfl
    unfold cmpT
    rw [hCI]
  clear hm hx hy hcm hCI
  go_enter Try.func37, Try.ntmps37
  go_wp2_with (first
    | (at_lookup; refine wpList_lookup_own_int _ rfl (.tmp 6) (.tmp 7) 66 rfl 3 3 .i64 mlaw Try.underlying66 Try.underlying3 (mzero _) ab n _ rfl HM.out _ _ rfl (keyOf_int_mk Try.underlying3 HX.out) ?_; intro cx hat hwc; have HAX := Lib.hid (timeOf_eq hat); clear hat)
    | (at_lookup; refine wpList_lookup_own_int _ rfl (.tmp 9) (.tmp 10) 66 rfl 3 3 .i64 mlaw Try.underlying66 Try.underlying3 (mzero _) ab n _ rfl HM.out _ _ rfl (keyOf_int_mk Try.underlying3 HY.out) ?_; intro cy hat hwc; have HAY := Lib.hid (timeOf_eq hat); clear hat)
    | (go_at_call 39; refine (HCM.out _ _ _).mono ?_; rintro e' w' ⟨rfl, rfl⟩)
    | (go_at_call 38; refine (HOR.out _ _ _).mono ?_; rintro e' w' ⟨rfl, rfl⟩))
  go_ret
  exact ⟨by rw [HV.out cx cy HAX.out HAY.out]; rfl, 0, _, alloc_eq_grow _ _⟩
/-- A number as the program has it. -/
abbrev I64 := {x : Int // (Lit.int .i64 x).wf = true}
instance : Inhabited I64 := ⟨⟨0, wf64 (by decide) (by decide)⟩⟩
def encI (x : I64) : Value := .int .i64 x.1
theorem cmpT_lt (D : DataW Unit) (x y : Int) : cmpT D x y < 0 ↔ before (x, timeOf D x) (y, timeOf D y) = true := by
  rw [before_iff]
  unfold cmpT orI compareInt
  dsimp only
  by_cases h1 : timeOf D x < timeOf D y
  · simp [h1]
  · by_cases h2 : timeOf D y < timeOf D x
    · simp [h1, h2]; omega
    · have h3 : timeOf D x = timeOf D y := by omega
      by_cases h4 : x < y
      · simp [h3, h4]
      · by_cases h5 : y < x
        · simp [h3, h4, h5]
        · simp [h3, h4, h5]
theorem ltT (D : DataW Unit) (x y : I64) : ltOf (fun a b : I64 => cmpT D a.1 b.1) x y = before (x.1, timeOf D x.1) (y.1, timeOf D y.1) := by
  unfold ltOf
  rw [Bool.eq_iff_iff, decide_eq_true_iff, cmpT_lt]
theorem swoT (D : DataW Unit) : SWO (ltOf (fun a b : I64 => cmpT D a.1 b.1)) where
  irrefl x := by rw [ltT, Bool.eq_false_iff, Ne, before_iff]; omega
  trans x y z h1 h2 := by rw [ltT, before_iff] at *; dsimp only at *; omega
  ntrans x y z h1 h2 := by rw [ltT, Bool.eq_false_iff, Ne, before_iff] at *; dsimp only at *; omega
theorem totT (D : DataW Unit) (x y : I64) (h1 : ltOf (fun a b : I64 => cmpT D a.1 b.1) x y = false) (h2 : ltOf (fun a b : I64 => cmpT D a.1 b.1) y x = false) : x = y := by
  rw [ltT, Bool.eq_false_iff, Ne, before_iff] at h1 h2
  dsimp only at h1 h2
  apply Subtype.ext
  omega
theorem sort_map (D : DataW Unit) (l : List I64) : (l.mergeSort fun x y => !ltOf (fun a b : I64 => cmpT D a.1 b.1) y x).map (fun x => x.1) = (l.map fun x => x.1).mergeSort fun x y => le (x, timeOf D x) (y, timeOf D y) := by
  apply List.map_mergeSort
  intro a _ b _
  rw [ltT]
  rfl
theorem sortWorld_other {enc : I64 → Value} {w : World} {blk off m : Nat} {dk : Array I64} {os : Array Obj} {k : Nat} (h : k ≠ blk) (hk : k < w.heap.size) : (sortWorld enc w blk off m dk os).heap[k]? = w.heap[k]? := by
  unfold sortWorld grow putRow mapBlock Sort.ahead
  simp only
  rw [Array.getElem?_append_left (by simpa using hk), Array.getElem?_modify]
  rw [if_neg (fun e => h e.symm)]
theorem cmpLays {D : DataW Unit} {vb ab n : Nat} {w : World} (blk off size : Nat) (hv : Blk w vb #[.map (some ab)] 66) (hm : w.ownsMap Try.prog 3 (plainElem Try.prog 3) ab n D) (h1 : vb ≠ blk) (h2 : ab ≠ blk) :
    CmpLays1 Try.prog 37 #[.pointer (some ⟨vb, 0, none⟩)] encI (fun a b : I64 => cmpT D a.1 b.1) blk off size w := by
  intro m os dk _ x y
  have e1 := sortWorld_other (enc := encI) (w := w) (blk := blk) (off := off) (m := m) (dk := dk) (os := os) h1 hv.lt
  have e2 := sortWorld_other (enc := encI) (w := w) (blk := blk) (off := off) (m := m) (dk := dk) (os := os) h2 hm.lt
  have hv' : Blk (sortWorld encI w blk off m dk os) vb #[.map (some ab)] 66 := e1.trans hv
  exact closure_any (hv'.cell 0) (own_heap hm e2) x.1 y.1 x.2 y.2
end Go.Proofs.Ytkcimbjgjamloaa

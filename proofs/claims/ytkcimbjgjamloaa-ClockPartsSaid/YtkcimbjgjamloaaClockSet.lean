/- Package clock: Set, Stop, Left, at any clock. -/
import Derived.Test.YtkcimbjgjamloaaClock
namespace Go.Proofs.Ytkcimbjgjamloaa
open Go.RowKit Go.Maps Clk
theorem wf64 {n : Int} (h : -9223372036854775808 ≤ n) (h' : n ≤ 9223372036854775807) : (Lit.int .i64 n).wf = true := by
  simp only [Lit.wf, Bool.and_eq_true, decide_eq_true_eq]
  exact ⟨h, h'⟩
section
variable {w : World} {g b n : Nat} {now : Int} {l : List Rw}
theorem Clock.drewN (h : Clock w g b n now l) (m : Nat) : Clock (w.drewN m) g b n now l := by
  obtain ⟨D, hD, hr⟩ := h.m
  exact ⟨h.c.drewN m, D, hD, hr⟩
set_option maxRecDepth 100000 in
theorem set_any (h : Clock w g b n now l) (id k : Int) (hid : -9223372036854775808 ≤ id) (hid' : id ≤ 9223372036854775807) (h1 : -1125899906842624 ≤ now) (h2 : now ≤ 1125899906842624) (hn : n < 1000000) :
    Calls Try.prog 16 #[.pointer (some ⟨g, 0, none⟩), .int .i64 id, .int .i64 k] w fun e w' => e = .returned (.tuple #[]) ∧ Clock w' g b (n + 1) now (without l id ++ [(id, now + withinZ k)]) ∧ Touch (fun j => j = b) w w' := by
  have hw : ∀ W, Calls Try.prog 35 #[.int .i64 k] W fun e w' => e = .returned (.int .i64 (withinZ k)) ∧ w' = W := fun W => (within_any k W).mono fun _ _ ⟨a, c⟩ => ⟨a, c.symm⟩
  have hz := withinZ_range k
  obtain ⟨t, ht⟩ : ∃ t, t = withinZ k := ⟨_, rfl⟩
  rw [← ht] at hw hz ⊢
  have HW := Lib.hid hw
  have q0 : w.cell? ⟨g, 0, none⟩ = some (.int .i64 now) := h.c.cell 0
  have q1 : w.cell? ⟨g, 1, none⟩ = some (.map (some b)) := h.c.cell 1
  have H := Lib.hid h
  have hz0 := hz.1
  have hz1 := hz.2
  have hsum : IntKind.i64.wrap (now + t) = now + t := IntWalk.i64_in _ (by omega)
  have HI : Hid ((Lit.int .i64 id).wf = true ∧ (Lit.int .i64 (now + t)).wf = true) := ⟨wf64 hid hid', wf64 (by omega) (by omega)⟩
  clear h hw ht hz
  go_enter Try.func16, Try.ntmps16
  go_wp2_with fail
  refine wp_region_drew_tail 12 (by kernel_rfl) (by kernel_rfl) ?_
  simp only [List.take_succ_cons, List.take_zero, List.drop_succ_cons, List.drop_zero]
  repeat go_big_quiet_step ((go_at_call 35; exact Calls.quiet_of_same (HW.out _)))
  refine wpQuiet_nil ?_
  rintro _ ⟨n1q, rfl⟩
  obtain ⟨D, hD, hr⟩ := (H.out.drewN n1q).m
  have HR := Lib.hid hr
  have HD := Lib.hid hD
  clear hD hr
  go_wp2_with (at_mapUpdate; refine wpList_mapUpdate_own _ rfl _ _ _ 66 rfl 3 3 mlaw Try.underlying66 _ b n _ rfl HD.out (by unfold maxLen; omega) _ _ _ rfl rfl (keyOf_int_mk Try.underlying3 HI.out.1) _ [] (plainElem_int Try.underlying3 HI.out.2) ?_; intro w1 hown1 hgrow1; have HO := Lib.hid hown1; have HG := Lib.hid hgrow1; clear hown1 hgrow1)
  go_end0
  have hT : Touch (fun j => j = b) (w.drewN n1q) w1 := Touch.of_grown HG.out (fun k hk => by cases hk; rfl)
  have hT0 : Touch (fun j => j = b) w w1 := ((Touch.refl _ w).drewN n1q).trans hT
  exact ⟨rfl, ⟨H.out.c.touch hT0 (fun e => H.out.ne e), _, HO.out, HR.out.put HD.out.isMap _ _⟩, hT0⟩
theorem set_nil (a b : Value) (w : World) : Calls Try.prog 16 #[.pointer none, a, b] w fun e w' => e = .returned (.tuple #[]) ∧ w = w' := by
  go_enter Try.func16, Try.ntmps16
  go_wp2_with fail
  go_end0
  exact ⟨rfl, rfl⟩
theorem stop_nil (a : Value) (w : World) : Calls Try.prog 19 #[.pointer none, a] w fun e w' => e = .returned (.tuple #[]) ∧ w = w' := by
  go_enter Try.func19, Try.ntmps19
  go_wp2_with fail
  go_end0
  exact ⟨rfl, rfl⟩
theorem stop_any (h : Clock w g b n now l) (id : Int) (hid : -9223372036854775808 ≤ id) (hid' : id ≤ 9223372036854775807) :
    Calls Try.prog 19 #[.pointer (some ⟨g, 0, none⟩), .int .i64 id] w fun e w' => e = .returned (.tuple #[]) ∧ Clock w' g b n now (without l id) ∧ Touch (fun j => j = b) w w' := by
  have q1 : w.cell? ⟨g, 1, none⟩ = some (.map (some b)) := h.c.cell 1
  have H := Lib.hid h
  have HI : Hid ((Lit.int .i64 id).wf = true) := wf64 hid hid'
  obtain ⟨D, hD, hr⟩ := h.m
  have HR := Lib.hid hr
  have HD := Lib.hid hD
  clear h hD hr
  go_enter Try.func19, Try.ntmps19
  go_wp2_with (at_delete; refine wpList_delete_own _ rfl _ _ 66 3 rfl 3 mlaw Try.underlying66 _ b n _ rfl HD.out _ _ rfl (keyOf_int_mk Try.underlying3 HI.out) ?_; intro w1 hown1 hturn1; have HO := Lib.hid hown1; have HG := Lib.hid hturn1; clear hown1 hturn1)
  go_end0
  have hT : Touch (fun j => j = b) w w1 := Touch.of_grown HG.out.grown (fun k hk => by cases hk; rfl)
  exact ⟨rfl, ⟨H.out.c.touch hT (fun e => H.out.ne e), _, HO.out, HR.out.del _⟩, hT⟩
/-- What Left tells: how long, and whether at all. -/
def leftV (now : Int) (o : Option Int) : Value := match o with
  | some t => .tuple #[.int .i64 (t - now), .bool true]
  | none => .tuple #[.int .i64 0, .bool false]
theorem left_nil (a : Value) (w : World) : Calls Try.prog 20 #[.pointer none, a] w fun e w' => e = .returned (.tuple #[.int .i64 0, .bool false]) ∧ w = w' := by
  go_enter Try.func20, Try.ntmps20
  go_wp2_with fail
  go_ret2
  exact ⟨rfl, rfl⟩
theorem left_any (h : Clock w g b n now l) (id : Int) (hid : -9223372036854775808 ≤ id) (hid' : id ≤ 9223372036854775807) (h1 : -1125899906842624 ≤ now) (h2 : now ≤ 1125899906842624) (hl : ∀ p ∈ l, -1125899906842624 ≤ p.2 ∧ p.2 ≤ 1125899906842624) (h1l : One l) :
    Calls Try.prog 20 #[.pointer (some ⟨g, 0, none⟩), .int .i64 id] w fun e w' => e = .returned (leftV now (leftAt l id)) ∧ w = w' := by
  have q0 : w.cell? ⟨g, 0, none⟩ = some (.int .i64 now) := h.c.cell 0
  have q1 : w.cell? ⟨g, 1, none⟩ = some (.map (some b)) := h.c.cell 1
  have HI : Hid ((Lit.int .i64 id).wf = true) := wf64 hid hid'
  obtain ⟨D, hD, hr⟩ := h.m
  have HD := Lib.hid hD
  obtain ⟨r1, r2⟩ := hr id
  cases ho : leftAt l id with
  | none =>
    have hh : Maps.has D (.int .i64 id) = false := by rw [r1, ho]; rfl
    have HH := Lib.hid hh
    unfold leftV
    clear h hD hr r1 r2 hl h1l ho hh
    go_enter Try.func20, Try.ntmps20
    go_wp2_with (at_lookup; refine wpList_lookup_own_ok_int _ rfl _ _ 66 rfl 3 3 .i64 mlaw Try.underlying66 Try.underlying3 (mzero _) b n _ rfl HD.out _ _ rfl (keyOf_int_mk Try.underlying3 HI.out) ?_; intro c hat hwc; rw [HH.out]; clear hat)
    go_ret2
    exact ⟨rfl, rfl⟩
  | some t =>
    have hh : Maps.has D (.int .i64 id) = true := by rw [r1, ho]; rfl
    have HH := Lib.hid hh
    have HT := Lib.hid (r2 t ho)
    have hb := hl (id, t) ((leftAt_mem h1l).1 ho)
    have hb1 := hb.1
    have hb2 := hb.2
    dsimp only at hb1 hb2
    unfold leftV
    clear h hD hr r1 r2 hl h1l ho hh hb
    go_enter Try.func20, Try.ntmps20
    go_wp2_with (at_lookup; refine wpList_lookup_own_ok_int _ rfl _ _ 66 rfl 3 3 .i64 mlaw Try.underlying66 Try.underlying3 (mzero _) b n _ rfl HD.out _ _ rfl (keyOf_int_mk Try.underlying3 HI.out) ?_; intro c hat hwc; rw [HH.out]; obtain rfl : t = c := (by have := (HT.out _).symm.trans hat; cases this; rfl); clear hat)
    go_ret2
    exact ⟨rfl, rfl⟩
end
end Go.Proofs.Ytkcimbjgjamloaa

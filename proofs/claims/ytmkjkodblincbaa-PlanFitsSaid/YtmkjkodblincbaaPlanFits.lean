/- The walk of PlanFits. -/
import Derived.Test.YtmkjkodblincbaaPlan
import Derived.Deep.DeepCutAuto
namespace Go.Proofs.Ytmkjkodblincbaa
open Go.RowKit
/-- What region 1 leaves. -/
def PlanMid (Bn : Nat) (f x y : Array Value) (C : Array Value) (w0 : World) (v7 v8 : Value) (w : World) : Prop :=
  ∃ b7 b8, v7 = .pointer (some ⟨b7, 0, none⟩) ∧ v8 = .pointer (some ⟨b8, 0, none⟩) ∧ (∀ j, w.cell? ⟨b7, j, none⟩ = x[j]?) ∧ (∀ j, w.cell? ⟨b8, j, none⟩ = y[j]?) ∧
    (∀ j, w.cell? ⟨Bn, j, none⟩ = f[j]?) ∧ (∀ j, w.cell? ⟨Bn + 1, j, none⟩ = C[j]?) ∧ Below w0.heap.size w0 w
theorem request_at {k l m p0 p1 p3 : Int} {p2 : Bool} (h : reqPlan k l m = (p0, p1, p2, p3)) (c0 c1 c3 c4 c5 c6 c7 c8 c9 c10 c11 c12 c13 c14 c15 c16 c17 : Value) (w : World) :
    Calls Try.prog 14 #[.agg #[.int .i64 k, .int .i64 l], .agg #[c0, c1, .int .i64 m, c3, c4, c5, c6, c7, c8, c9, c10, c11, c12, c13, c14, c15, c16, c17]] w
      fun e w' => e = .returned (.agg #[.int .i64 p0, .int .i64 p1, .bool p2, .int .i64 p3]) ∧ Below w.heap.size w w' := by
  have := request_any k l m c0 c1 c3 c4 c5 c6 c7 c8 c9 c10 c11 c12 c13 c14 c15 c16 c17 w
  rw [h] at this
  exact this
theorem response_at {k l v s c q0 q1 q3 : Int} {q2 : Bool} (h : resPlan k l v s c = (q0, q1, q2, q3)) (c0 c1 c2 c4 c5 c7 c8 c9 c10 c11 c12 c13 c14 c15 c16 c17 : Value) (w : World) :
    Calls Try.prog 15 #[.agg #[.int .i64 k, .int .i64 l], .int .i64 v, .agg #[c0, c1, c2, .int .i64 s, c4, c5, .int .i64 c, c7, c8, c9, c10, c11, c12, c13, c14, c15, c16, c17]] w
      fun e w' => e = .returned (.agg #[.int .i64 q0, .int .i64 q1, .bool q2, .int .i64 q3]) ∧ Below w.heap.size w w' := by
  have := response_any k l v s c c0 c1 c2 c4 c5 c7 c8 c9 c10 c11 c12 c13 c14 c15 c16 c17 w
  rw [h] at this
  exact this
theorem held_at {P : Program} {S : World → Prop} {id : Nat} {ops : Array Oper} {Q : Exit → Act → World → Prop} {a : Act} {w : World} (hm : P.follows .mixedOrders = true) (h : ∀ w1, w1 = w.drew → wpAnyH P .any ops Q S ops.size (Array.replicate ops.size false) a w1) : (Code.region id ops true).wp P Q a w := wp_region_held hm (h _ rfl)
/-- What holds between the region's operations: the arguments' blocks, and what lay before. -/
structure PlanS (w0 : World) (f C : Array Value) (w : World) : Prop where
  f : Blk w w0.heap.size f 33
  c : Blk w (w0.heap.size + 1) C 37
  u : Below w0.heap.size w0 w
theorem PlanS.below {w0 : World} {f C : Array Value} {w w1 : World} (h : PlanS w0 f C w) (b : Below w.heap.size w w1) : PlanS w0 f C w1 := ⟨h.f.call b, h.c.call b, h.u.trans (b.mono h.u.size)⟩
theorem PlanS.alloc {w0 : World} {f C : Array Value} {w : World} (h : PlanS w0 f C w) (o : Obj) : PlanS w0 f C (w.alloc o) := ⟨h.f.alloc o, h.c.alloc o, h.u.alloc h.u.size o⟩
theorem PlanS.set {w0 : World} {f C : Array Value} {w : World} (h : PlanS w0 f C w) {g : Nat} (hg : w0.heap.size + 2 ≤ g) (i : Nat) (u : Value) : PlanS w0 f C (w.setCell ⟨g, i, none⟩ u) := ⟨h.f.far (by show w0.heap.size ≠ g; omega) u, h.c.far (by show w0.heap.size + 1 ≠ g; omega) u, h.u.setCell (by show w0.heap.size ≤ g; omega) u⟩
theorem PlanS.lt {w0 : World} {f C : Array Value} {w : World} (h : PlanS w0 f C w) : w0.heap.size + 2 ≤ w.heap.size := by have := h.c.lt; omega
set_option maxHeartbeats 8000000 in
set_option maxRecDepth 100000 in
theorem fits (k l v m s c : Int) (c0 c1 c4 c5 c7 c8 c9 c10 c11 c12 c13 c14 c15 c16 c17 : Value) (w : World) :
    Calls Try.prog 4 #[.agg #[.int .i64 k, .int .i64 l], .int .i64 v, .agg #[c0, c1, .int .i64 m, .int .i64 s, c4, c5, .int .i64 c, c7, c8, c9, c10, c11, c12, c13, c14, c15, c16, c17]] w
      fun e w' => e = .returned (.bool true) ∧ Below w.heap.size w w' := by
  obtain ⟨W0, hW0⟩ : ∃ W, W = (w.alloc (.cells #[.int .i64 k, .int .i64 l] 33)).alloc (.cells #[c0, c1, .int .i64 m, .int .i64 s, c4, c5, .int .i64 c, c7, c8, c9, c10, c11, c12, c13, c14, c15, c16, c17] 37) := ⟨_, rfl⟩
  have hs : PlanS w #[.int .i64 k, .int .i64 l] #[c0, c1, .int .i64 m, .int .i64 s, c4, c5, .int .i64 c, c7, c8, c9, c10, c11, c12, c13, c14, c15, c16, c17] W0.drew := by
    rw [hW0]
    refine ⟨((Blk.new _ _ _).alloc _), ?_, (((Below.refl _ _).alloc (Nat.le_refl _) _).alloc (by simp) _).drew⟩
    have h2 := Blk.new (w.alloc (.cells #[.int .i64 k, .int .i64 l] 33)) #[c0, c1, .int .i64 m, .int .i64 s, c4, c5, .int .i64 c, c7, c8, c9, c10, c11, c12, c13, c14, c15, c16, c17] 37
    have h3 : (w.alloc (.cells #[.int .i64 k, .int .i64 l] 33)).heap.size = w.heap.size + 1 := by simp
    rw [h3] at h2
    exact h2
  have HS := Lib.hid hs
  have HW0 := Lib.hid hW0
  obtain ⟨p0, p1, p2, p3, hp⟩ : ∃ p0 p1 p2 p3, reqPlan k l m = (p0, p1, p2, p3) := ⟨_, _, _, _, rfl⟩
  obtain ⟨q0, q1, q2, q3, hq⟩ : ∃ p0 p1 p2 p3, resPlan k l v s c = (p0, p1, p2, p3) := ⟨_, _, _, _, rfl⟩
  have HP := Lib.hid hp
  have HQ := Lib.hid hq
  clear hp hq hs hW0
  go_enter Try.func4, Try.ntmps4
  go_wp2_with fail
  rw [← HW0.out]
  go_cut [7, 8] (fun v7 v8 w' => PlanMid w.heap.size #[.int .i64 k, .int .i64 l] #[.int .i64 p0, .int .i64 p1, .bool p2, .int .i64 p3] #[.int .i64 q0, .int .i64 q1, .bool q2, .int .i64 q3] #[c0, c1, .int .i64 m, .int .i64 s, c4, c5, .int .i64 c, c7, c8, c9, c10, c11, c12, c13, c14, c15, c16, c17] w v7 v8 w')
  case first =>
    refine held_at (S := PlanS w #[.int .i64 k, .int .i64 l] #[c0, c1, .int .i64 m, .int .i64 s, c4, c5, .int .i64 c, c7, c8, c9, c10, c11, c12, c13, c14, c15, c16, c17]) (by kernel_rfl) ?_
    rintro V0 hV0
    have h0 : PlanS w #[.int .i64 k, .int .i64 l] #[c0, c1, .int .i64 m, .int .i64 s, c4, c5, .int .i64 c, c7, c8, c9, c10, c11, c12, c13, c14, c15, c16, c17] V0 := by rw [hV0]; exact HS.out
    clear hV0
    refine wpAnyH_take (i := 0) (v := Value.agg #[.int .i64 k, .int .i64 l]) rfl (by kernel_rfl) (by kernel_rfl) (by kernel_rfl) (fun _ _ _ h => h) (Or.inl ⟨by rfl, ?hy0⟩) h0 ?rest0
    case hy0 =>
      as_aux_lemma =>
        intro w' hSw
        have q0 : w'.cell? ⟨w.heap.size, 0, none⟩ = some (.int .i64 k) := hSw.f.cell 0
        have q1 : w'.cell? ⟨w.heap.size, 1, none⟩ = some (.int .i64 l) := hSw.f.cell 1
        clear hSw
        go_simp
    (try simp only [Act.put, List.setIfInBounds_toArray, List.set_cons_zero, List.set_cons_succ])
    refine wpAnyH_take (i := 1) (v := Value.agg #[c0, c1, .int .i64 m, .int .i64 s, c4, c5, .int .i64 c, c7, c8, c9, c10, c11, c12, c13, c14, c15, c16, c17]) rfl (by kernel_rfl) (by kernel_rfl) (by kernel_rfl) (fun _ _ _ h => h) (Or.inl ⟨by rfl, ?hy1⟩) h0 ?rest1
    case hy1 =>
      as_aux_lemma =>
        intro w' hSw
        have q0 : w'.cell? ⟨w.heap.size + 1, 0, none⟩ = some (c0) := hSw.c.cell 0
        have q1 : w'.cell? ⟨w.heap.size + 1, 1, none⟩ = some (c1) := hSw.c.cell 1
        have q2 : w'.cell? ⟨w.heap.size + 1, 2, none⟩ = some (.int .i64 m) := hSw.c.cell 2
        have q3 : w'.cell? ⟨w.heap.size + 1, 3, none⟩ = some (.int .i64 s) := hSw.c.cell 3
        have q4 : w'.cell? ⟨w.heap.size + 1, 4, none⟩ = some (c4) := hSw.c.cell 4
        have q5 : w'.cell? ⟨w.heap.size + 1, 5, none⟩ = some (c5) := hSw.c.cell 5
        have q6 : w'.cell? ⟨w.heap.size + 1, 6, none⟩ = some (.int .i64 c) := hSw.c.cell 6
        have q7 : w'.cell? ⟨w.heap.size + 1, 7, none⟩ = some (c7) := hSw.c.cell 7
        have q8 : w'.cell? ⟨w.heap.size + 1, 8, none⟩ = some (c8) := hSw.c.cell 8
        have q9 : w'.cell? ⟨w.heap.size + 1, 9, none⟩ = some (c9) := hSw.c.cell 9
        have q10 : w'.cell? ⟨w.heap.size + 1, 10, none⟩ = some (c10) := hSw.c.cell 10
        have q11 : w'.cell? ⟨w.heap.size + 1, 11, none⟩ = some (c11) := hSw.c.cell 11
        have q12 : w'.cell? ⟨w.heap.size + 1, 12, none⟩ = some (c12) := hSw.c.cell 12
        have q13 : w'.cell? ⟨w.heap.size + 1, 13, none⟩ = some (c13) := hSw.c.cell 13
        have q14 : w'.cell? ⟨w.heap.size + 1, 14, none⟩ = some (c14) := hSw.c.cell 14
        have q15 : w'.cell? ⟨w.heap.size + 1, 15, none⟩ = some (c15) := hSw.c.cell 15
        have q16 : w'.cell? ⟨w.heap.size + 1, 16, none⟩ = some (c16) := hSw.c.cell 16
        have q17 : w'.cell? ⟨w.heap.size + 1, 17, none⟩ = some (c17) := hSw.c.cell 17
        clear hSw
        go_simp
    (try simp only [Act.put, List.setIfInBounds_toArray, List.set_cons_zero, List.set_cons_succ])
    refine wpAnyH_take (i := 3) (v := Value.agg #[.int .i64 k, .int .i64 l]) rfl (by kernel_rfl) (by kernel_rfl) (by kernel_rfl) (fun _ _ _ h => h) (Or.inl ⟨by rfl, ?hy3⟩) h0 ?rest3
    case hy3 =>
      as_aux_lemma =>
        intro w' hSw
        have q0 : w'.cell? ⟨w.heap.size, 0, none⟩ = some (.int .i64 k) := hSw.f.cell 0
        have q1 : w'.cell? ⟨w.heap.size, 1, none⟩ = some (.int .i64 l) := hSw.f.cell 1
        clear hSw
        go_simp
    (try simp only [Act.put, List.setIfInBounds_toArray, List.set_cons_zero, List.set_cons_succ])
    refine wpAnyH_take (i := 4) (v := Value.int .i64 v) rfl (by kernel_rfl) (by kernel_rfl) (by kernel_rfl) (fun _ _ _ h => h) (Or.inl ⟨by rfl, ?hy4⟩) h0 ?rest4
    case hy4 =>
      as_aux_lemma =>
        intro w' hSw
        clear hSw
        go_simp
    (try simp only [Act.put, List.setIfInBounds_toArray, List.set_cons_zero, List.set_cons_succ])
    refine wpAnyH_take (i := 5) (v := Value.agg #[c0, c1, .int .i64 m, .int .i64 s, c4, c5, .int .i64 c, c7, c8, c9, c10, c11, c12, c13, c14, c15, c16, c17]) rfl (by kernel_rfl) (by kernel_rfl) (by kernel_rfl) (fun _ _ _ h => h) (Or.inl ⟨by rfl, ?hy5⟩) h0 ?rest5
    case hy5 =>
      as_aux_lemma =>
        intro w' hSw
        have q0 : w'.cell? ⟨w.heap.size + 1, 0, none⟩ = some (c0) := hSw.c.cell 0
        have q1 : w'.cell? ⟨w.heap.size + 1, 1, none⟩ = some (c1) := hSw.c.cell 1
        have q2 : w'.cell? ⟨w.heap.size + 1, 2, none⟩ = some (.int .i64 m) := hSw.c.cell 2
        have q3 : w'.cell? ⟨w.heap.size + 1, 3, none⟩ = some (.int .i64 s) := hSw.c.cell 3
        have q4 : w'.cell? ⟨w.heap.size + 1, 4, none⟩ = some (c4) := hSw.c.cell 4
        have q5 : w'.cell? ⟨w.heap.size + 1, 5, none⟩ = some (c5) := hSw.c.cell 5
        have q6 : w'.cell? ⟨w.heap.size + 1, 6, none⟩ = some (.int .i64 c) := hSw.c.cell 6
        have q7 : w'.cell? ⟨w.heap.size + 1, 7, none⟩ = some (c7) := hSw.c.cell 7
        have q8 : w'.cell? ⟨w.heap.size + 1, 8, none⟩ = some (c8) := hSw.c.cell 8
        have q9 : w'.cell? ⟨w.heap.size + 1, 9, none⟩ = some (c9) := hSw.c.cell 9
        have q10 : w'.cell? ⟨w.heap.size + 1, 10, none⟩ = some (c10) := hSw.c.cell 10
        have q11 : w'.cell? ⟨w.heap.size + 1, 11, none⟩ = some (c11) := hSw.c.cell 11
        have q12 : w'.cell? ⟨w.heap.size + 1, 12, none⟩ = some (c12) := hSw.c.cell 12
        have q13 : w'.cell? ⟨w.heap.size + 1, 13, none⟩ = some (c13) := hSw.c.cell 13
        have q14 : w'.cell? ⟨w.heap.size + 1, 14, none⟩ = some (c14) := hSw.c.cell 14
        have q15 : w'.cell? ⟨w.heap.size + 1, 15, none⟩ = some (c15) := hSw.c.cell 15
        have q16 : w'.cell? ⟨w.heap.size + 1, 16, none⟩ = some (c16) := hSw.c.cell 16
        have q17 : w'.cell? ⟨w.heap.size + 1, 17, none⟩ = some (c17) := hSw.c.cell 17
        clear hSw
        go_simp
    (try simp only [Act.put, List.setIfInBounds_toArray, List.set_cons_zero, List.set_cons_succ])
    have RQ := fun W => request_at HP.out c0 c1 (.int .i64 s) c4 c5 (.int .i64 c) c7 c8 c9 c10 c11 c12 c13 c14 c15 c16 c17 W
    have RS := fun W => response_at HQ.out c0 c1 (.int .i64 m) c4 c5 c7 c8 c9 c10 c11 c12 c13 c14 c15 c16 c17 W
    clear HS HW0 HP HQ
    generalize hFa : (#[.int .i64 k, .int .i64 l] : Array Value) = Fa at h0 RQ RS ⊢
    generalize hCa : (#[c0, c1, .int .i64 m, .int .i64 s, c4, c5, .int .i64 c, c7, c8, c9, c10, c11, c12, c13, c14, c15, c16, c17] : Array Value) = Ca at h0 RQ RS ⊢
    have HFa := Lib.hid hFa
    have HCa := Lib.hid hCa
    clear hFa hCa
    as_aux_lemma =>
      refine wpAnyH_ready (rs := [2, 7, 8]) (by kernel_rfl) (by simp) ?_
      refine AllReadyH.cons rfl (fun K hK => ?_) ?_
      · as_aux_lemma =>
          go_simp
          refine (RQ V0).mono ?_
          rintro e V1 ⟨rfl, hb⟩
          have h1 := h0.below hb
          clear hb
          refine hK _ _ h1 (fun _ => ?_)
          clear hK K
          (try simp only [Act.put, List.setIfInBounds_toArray, List.set_cons_zero, List.set_cons_succ])
          refine wpAnyH_ready (rs := [6, 7, 8]) (by kernel_rfl) (by simp) ?_
          refine AllReadyH.cons rfl (fun K hK => ?_) ?_
          · as_aux_lemma =>
              go_simp
              refine (RS V1).mono ?_
              rintro e V2 ⟨rfl, hb⟩
              have h2 := h1.below hb
              clear hb
              refine hK _ _ h2 (fun _ => ?_)
              clear hK K
              (try simp only [Act.put, List.setIfInBounds_toArray, List.set_cons_zero, List.set_cons_succ])
              refine wpAnyH_ready (rs := [7, 8]) (by kernel_rfl) (by simp) ?_
              refine AllReadyH.cons rfl (fun K hK => ?_) ?_
              · as_aux_lemma =>
                  go_simp
                  obtain ⟨ba, hba⟩ : ∃ n, n = V2.heap.size := ⟨_, rfl⟩
                  rw [← hba]
                  obtain ⟨V3, hW⟩ : ∃ X, X = V2.alloc (.cells #[.int .i64 0, .int .i64 0, .bool false, .int .i64 0] 39) := ⟨_, rfl⟩
                  rw [← hW]
                  have h3 : PlanS w Fa Ca V3 := by rw [hW]; exact h2.alloc _
                  have ga3 : Blk V3 ba #[.int .i64 0, .int .i64 0, .bool false, .int .i64 0] 39 := by rw [hW, hba]; exact Blk.new _ _ _
                  have nba : w.heap.size + 2 ≤ ba := by have := h2.lt; omega
                  clear hW hba
                  refine hK _ _ h3 (fun _ => ?_)
                  clear hK K
                  (try simp only [Act.put, List.setIfInBounds_toArray, List.set_cons_zero, List.set_cons_succ])
                  refine wpAnyH_ready (rs := [8]) (by kernel_rfl) (by simp) ?_
                  refine AllReadyH.cons rfl (fun K hK => ?_) AllReadyH.nil
                  as_aux_lemma =>
                    go_simp
                    obtain ⟨bb, hbb⟩ : ∃ n, n = V3.heap.size := ⟨_, rfl⟩
                    rw [← hbb]
                    obtain ⟨V4, hW⟩ : ∃ X, X = V3.alloc (.cells #[.int .i64 0, .int .i64 0, .bool false, .int .i64 0] 39) := ⟨_, rfl⟩
                    rw [← hW]
                    have h4 : PlanS w Fa Ca V4 := by rw [hW]; exact h3.alloc _
                    have gb4 : Blk V4 bb #[.int .i64 0, .int .i64 0, .bool false, .int .i64 0] 39 := by rw [hW, hbb]; exact Blk.new _ _ _
                    have nbb : w.heap.size + 2 ≤ bb := by have := h3.lt; omega
                    have ga4 : Blk V4 ba #[.int .i64 0, .int .i64 0, .bool false, .int .i64 0] 39 := by rw [hW]; exact ga3.alloc _
                    have nab : ba ≠ bb := by have := ga3.lt; omega
                    clear hW hbb
                    refine hK _ _ h4 (fun _ => ?_)
                    clear hK K
                    (try simp only [Act.put, List.setIfInBounds_toArray, List.set_cons_zero, List.set_cons_succ])
                    refine wpAnyH_ready (rs := [9]) (by kernel_rfl) (by simp) ?_
                    refine AllReadyH.cons rfl (fun K hK => ?_) AllReadyH.nil
                    as_aux_lemma =>
                      have cz := ga4.cell
                      have fz := ga4.froz
                      go_simp
                      clear cz fz
                      obtain ⟨V5, hW⟩ : ∃ X, X = ((((V4.setCell ⟨ba, 0, none⟩ (.int .i64 p0)).setCell ⟨ba, 1, none⟩ (.int .i64 p1)).setCell ⟨ba, 2, none⟩ (.bool p2)).setCell ⟨ba, 3, none⟩ (.int .i64 p3)) := ⟨_, rfl⟩
                      rw [← hW]
                      have h5 : PlanS w Fa Ca V5 := by rw [hW]; exact (((h4.set nba _ _).set nba _ _).set nba _ _).set nba _ _
                      have ga5 : Blk V5 ba #[.int .i64 p0, .int .i64 p1, .bool p2, .int .i64 p3] 39 := by rw [hW]; exact (((ga4.set 0 _).set 1 _).set 2 _).set 3 _
                      have gb5 : Blk V5 bb #[.int .i64 0, .int .i64 0, .bool false, .int .i64 0] 39 := by rw [hW]; exact (((gb4.far nab.symm _).far nab.symm _).far nab.symm _).far nab.symm _
                      clear hW
                      refine hK _ _ h5 (fun _ => ?_)
                      clear hK K
                      (try simp only [Act.put, List.setIfInBounds_toArray, List.set_cons_zero, List.set_cons_succ])
                      refine wpAnyH_ready (rs := [10]) (by kernel_rfl) (by simp) ?_
                      refine AllReadyH.cons rfl (fun K hK => ?_) AllReadyH.nil
                      as_aux_lemma =>
                        have cz := gb5.cell
                        have fz := gb5.froz
                        go_simp
                        clear cz fz
                        obtain ⟨V6, hW⟩ : ∃ X, X = ((((V5.setCell ⟨bb, 0, none⟩ (.int .i64 q0)).setCell ⟨bb, 1, none⟩ (.int .i64 q1)).setCell ⟨bb, 2, none⟩ (.bool q2)).setCell ⟨bb, 3, none⟩ (.int .i64 q3)) := ⟨_, rfl⟩
                        rw [← hW]
                        have h6 : PlanS w Fa Ca V6 := by rw [hW]; exact (((h5.set nbb _ _).set nbb _ _).set nbb _ _).set nbb _ _
                        have gb6 : Blk V6 bb #[.int .i64 q0, .int .i64 q1, .bool q2, .int .i64 q3] 39 := by rw [hW]; exact (((gb5.set 0 _).set 1 _).set 2 _).set 3 _
                        have ga6 : Blk V6 ba #[.int .i64 p0, .int .i64 p1, .bool p2, .int .i64 p3] 39 := by rw [hW]; exact (((ga5.far nab _).far nab _).far nab _).far nab _
                        clear hW
                        refine hK _ _ h6 (fun _ => ?_)
                        clear hK K
                        (try simp only [Act.put, List.setIfInBounds_toArray, List.set_cons_zero, List.set_cons_succ])
                        refine wpAnyH_done (by kernel_rfl) ?_ _
                        obtain rfl := HFa.out
                        obtain rfl := HCa.out
                        go_wp2_with fail
                        go_meet
                        case rel =>
                          exact ⟨ba, bb, rfl, rfl, ga6.cell, gb6.cell, h6.f.cell, h6.c.cell, h6.u⟩
              refine AllReadyH.cons rfl (fun K hK => ?_) ?_
              · as_aux_lemma =>
                  go_simp
                  obtain ⟨bb, hbb⟩ : ∃ n, n = V2.heap.size := ⟨_, rfl⟩
                  rw [← hbb]
                  obtain ⟨V3, hW⟩ : ∃ X, X = V2.alloc (.cells #[.int .i64 0, .int .i64 0, .bool false, .int .i64 0] 39) := ⟨_, rfl⟩
                  rw [← hW]
                  have h3 : PlanS w Fa Ca V3 := by rw [hW]; exact h2.alloc _
                  have gb3 : Blk V3 bb #[.int .i64 0, .int .i64 0, .bool false, .int .i64 0] 39 := by rw [hW, hbb]; exact Blk.new _ _ _
                  have nbb : w.heap.size + 2 ≤ bb := by have := h2.lt; omega
                  clear hW hbb
                  refine hK _ _ h3 (fun _ => ?_)
                  clear hK K
                  (try simp only [Act.put, List.setIfInBounds_toArray, List.set_cons_zero, List.set_cons_succ])
                  refine wpAnyH_ready (rs := [7]) (by kernel_rfl) (by simp) ?_
                  refine AllReadyH.cons rfl (fun K hK => ?_) AllReadyH.nil
                  as_aux_lemma =>
                    go_simp
                    obtain ⟨ba, hba⟩ : ∃ n, n = V3.heap.size := ⟨_, rfl⟩
                    rw [← hba]
                    obtain ⟨V4, hW⟩ : ∃ X, X = V3.alloc (.cells #[.int .i64 0, .int .i64 0, .bool false, .int .i64 0] 39) := ⟨_, rfl⟩
                    rw [← hW]
                    have h4 : PlanS w Fa Ca V4 := by rw [hW]; exact h3.alloc _
                    have ga4 : Blk V4 ba #[.int .i64 0, .int .i64 0, .bool false, .int .i64 0] 39 := by rw [hW, hba]; exact Blk.new _ _ _
                    have nba : w.heap.size + 2 ≤ ba := by have := h3.lt; omega
                    have gb4 : Blk V4 bb #[.int .i64 0, .int .i64 0, .bool false, .int .i64 0] 39 := by rw [hW]; exact gb3.alloc _
                    have nab : ba ≠ bb := by have := gb3.lt; omega
                    clear hW hba
                    refine hK _ _ h4 (fun _ => ?_)
                    clear hK K
                    (try simp only [Act.put, List.setIfInBounds_toArray, List.set_cons_zero, List.set_cons_succ])
                    refine wpAnyH_ready (rs := [9]) (by kernel_rfl) (by simp) ?_
                    refine AllReadyH.cons rfl (fun K hK => ?_) AllReadyH.nil
                    as_aux_lemma =>
                      have cz := ga4.cell
                      have fz := ga4.froz
                      go_simp
                      clear cz fz
                      obtain ⟨V5, hW⟩ : ∃ X, X = ((((V4.setCell ⟨ba, 0, none⟩ (.int .i64 p0)).setCell ⟨ba, 1, none⟩ (.int .i64 p1)).setCell ⟨ba, 2, none⟩ (.bool p2)).setCell ⟨ba, 3, none⟩ (.int .i64 p3)) := ⟨_, rfl⟩
                      rw [← hW]
                      have h5 : PlanS w Fa Ca V5 := by rw [hW]; exact (((h4.set nba _ _).set nba _ _).set nba _ _).set nba _ _
                      have ga5 : Blk V5 ba #[.int .i64 p0, .int .i64 p1, .bool p2, .int .i64 p3] 39 := by rw [hW]; exact (((ga4.set 0 _).set 1 _).set 2 _).set 3 _
                      have gb5 : Blk V5 bb #[.int .i64 0, .int .i64 0, .bool false, .int .i64 0] 39 := by rw [hW]; exact (((gb4.far nab.symm _).far nab.symm _).far nab.symm _).far nab.symm _
                      clear hW
                      refine hK _ _ h5 (fun _ => ?_)
                      clear hK K
                      (try simp only [Act.put, List.setIfInBounds_toArray, List.set_cons_zero, List.set_cons_succ])
                      refine wpAnyH_ready (rs := [10]) (by kernel_rfl) (by simp) ?_
                      refine AllReadyH.cons rfl (fun K hK => ?_) AllReadyH.nil
                      as_aux_lemma =>
                        have cz := gb5.cell
                        have fz := gb5.froz
                        go_simp
                        clear cz fz
                        obtain ⟨V6, hW⟩ : ∃ X, X = ((((V5.setCell ⟨bb, 0, none⟩ (.int .i64 q0)).setCell ⟨bb, 1, none⟩ (.int .i64 q1)).setCell ⟨bb, 2, none⟩ (.bool q2)).setCell ⟨bb, 3, none⟩ (.int .i64 q3)) := ⟨_, rfl⟩
                        rw [← hW]
                        have h6 : PlanS w Fa Ca V6 := by rw [hW]; exact (((h5.set nbb _ _).set nbb _ _).set nbb _ _).set nbb _ _
                        have gb6 : Blk V6 bb #[.int .i64 q0, .int .i64 q1, .bool q2, .int .i64 q3] 39 := by rw [hW]; exact (((gb5.set 0 _).set 1 _).set 2 _).set 3 _
                        have ga6 : Blk V6 ba #[.int .i64 p0, .int .i64 p1, .bool p2, .int .i64 p3] 39 := by rw [hW]; exact (((ga5.far nab _).far nab _).far nab _).far nab _
                        clear hW
                        refine hK _ _ h6 (fun _ => ?_)
                        clear hK K
                        (try simp only [Act.put, List.setIfInBounds_toArray, List.set_cons_zero, List.set_cons_succ])
                        refine wpAnyH_done (by kernel_rfl) ?_ _
                        obtain rfl := HFa.out
                        obtain rfl := HCa.out
                        go_wp2_with fail
                        go_meet
                        case rel =>
                          exact ⟨ba, bb, rfl, rfl, ga6.cell, gb6.cell, h6.f.cell, h6.c.cell, h6.u⟩
              exact AllReadyH.nil
          refine AllReadyH.cons rfl (fun K hK => ?_) ?_
          · as_aux_lemma =>
              go_simp
              obtain ⟨ba, hba⟩ : ∃ n, n = V1.heap.size := ⟨_, rfl⟩
              rw [← hba]
              obtain ⟨V2, hW⟩ : ∃ X, X = V1.alloc (.cells #[.int .i64 0, .int .i64 0, .bool false, .int .i64 0] 39) := ⟨_, rfl⟩
              rw [← hW]
              have h2 : PlanS w Fa Ca V2 := by rw [hW]; exact h1.alloc _
              have ga2 : Blk V2 ba #[.int .i64 0, .int .i64 0, .bool false, .int .i64 0] 39 := by rw [hW, hba]; exact Blk.new _ _ _
              have nba : w.heap.size + 2 ≤ ba := by have := h1.lt; omega
              clear hW hba
              refine hK _ _ h2 (fun _ => ?_)
              clear hK K
              (try simp only [Act.put, List.setIfInBounds_toArray, List.set_cons_zero, List.set_cons_succ])
              refine wpAnyH_ready (rs := [6, 8]) (by kernel_rfl) (by simp) ?_
              refine AllReadyH.cons rfl (fun K hK => ?_) ?_
              · as_aux_lemma =>
                  go_simp
                  refine (RS V2).mono ?_
                  rintro e V3 ⟨rfl, hb⟩
                  have h3 := h2.below hb
                  have ga3 := ga2.call hb
                  clear hb
                  refine hK _ _ h3 (fun _ => ?_)
                  clear hK K
                  (try simp only [Act.put, List.setIfInBounds_toArray, List.set_cons_zero, List.set_cons_succ])
                  refine wpAnyH_ready (rs := [8]) (by kernel_rfl) (by simp) ?_
                  refine AllReadyH.cons rfl (fun K hK => ?_) AllReadyH.nil
                  as_aux_lemma =>
                    go_simp
                    obtain ⟨bb, hbb⟩ : ∃ n, n = V3.heap.size := ⟨_, rfl⟩
                    rw [← hbb]
                    obtain ⟨V4, hW⟩ : ∃ X, X = V3.alloc (.cells #[.int .i64 0, .int .i64 0, .bool false, .int .i64 0] 39) := ⟨_, rfl⟩
                    rw [← hW]
                    have h4 : PlanS w Fa Ca V4 := by rw [hW]; exact h3.alloc _
                    have gb4 : Blk V4 bb #[.int .i64 0, .int .i64 0, .bool false, .int .i64 0] 39 := by rw [hW, hbb]; exact Blk.new _ _ _
                    have nbb : w.heap.size + 2 ≤ bb := by have := h3.lt; omega
                    have ga4 : Blk V4 ba #[.int .i64 0, .int .i64 0, .bool false, .int .i64 0] 39 := by rw [hW]; exact ga3.alloc _
                    have nab : ba ≠ bb := by have := ga3.lt; omega
                    clear hW hbb
                    refine hK _ _ h4 (fun _ => ?_)
                    clear hK K
                    (try simp only [Act.put, List.setIfInBounds_toArray, List.set_cons_zero, List.set_cons_succ])
                    refine wpAnyH_ready (rs := [9]) (by kernel_rfl) (by simp) ?_
                    refine AllReadyH.cons rfl (fun K hK => ?_) AllReadyH.nil
                    as_aux_lemma =>
                      have cz := ga4.cell
                      have fz := ga4.froz
                      go_simp
                      clear cz fz
                      obtain ⟨V5, hW⟩ : ∃ X, X = ((((V4.setCell ⟨ba, 0, none⟩ (.int .i64 p0)).setCell ⟨ba, 1, none⟩ (.int .i64 p1)).setCell ⟨ba, 2, none⟩ (.bool p2)).setCell ⟨ba, 3, none⟩ (.int .i64 p3)) := ⟨_, rfl⟩
                      rw [← hW]
                      have h5 : PlanS w Fa Ca V5 := by rw [hW]; exact (((h4.set nba _ _).set nba _ _).set nba _ _).set nba _ _
                      have ga5 : Blk V5 ba #[.int .i64 p0, .int .i64 p1, .bool p2, .int .i64 p3] 39 := by rw [hW]; exact (((ga4.set 0 _).set 1 _).set 2 _).set 3 _
                      have gb5 : Blk V5 bb #[.int .i64 0, .int .i64 0, .bool false, .int .i64 0] 39 := by rw [hW]; exact (((gb4.far nab.symm _).far nab.symm _).far nab.symm _).far nab.symm _
                      clear hW
                      refine hK _ _ h5 (fun _ => ?_)
                      clear hK K
                      (try simp only [Act.put, List.setIfInBounds_toArray, List.set_cons_zero, List.set_cons_succ])
                      refine wpAnyH_ready (rs := [10]) (by kernel_rfl) (by simp) ?_
                      refine AllReadyH.cons rfl (fun K hK => ?_) AllReadyH.nil
                      as_aux_lemma =>
                        have cz := gb5.cell
                        have fz := gb5.froz
                        go_simp
                        clear cz fz
                        obtain ⟨V6, hW⟩ : ∃ X, X = ((((V5.setCell ⟨bb, 0, none⟩ (.int .i64 q0)).setCell ⟨bb, 1, none⟩ (.int .i64 q1)).setCell ⟨bb, 2, none⟩ (.bool q2)).setCell ⟨bb, 3, none⟩ (.int .i64 q3)) := ⟨_, rfl⟩
                        rw [← hW]
                        have h6 : PlanS w Fa Ca V6 := by rw [hW]; exact (((h5.set nbb _ _).set nbb _ _).set nbb _ _).set nbb _ _
                        have gb6 : Blk V6 bb #[.int .i64 q0, .int .i64 q1, .bool q2, .int .i64 q3] 39 := by rw [hW]; exact (((gb5.set 0 _).set 1 _).set 2 _).set 3 _
                        have ga6 : Blk V6 ba #[.int .i64 p0, .int .i64 p1, .bool p2, .int .i64 p3] 39 := by rw [hW]; exact (((ga5.far nab _).far nab _).far nab _).far nab _
                        clear hW
                        refine hK _ _ h6 (fun _ => ?_)
                        clear hK K
                        (try simp only [Act.put, List.setIfInBounds_toArray, List.set_cons_zero, List.set_cons_succ])
                        refine wpAnyH_done (by kernel_rfl) ?_ _
                        obtain rfl := HFa.out
                        obtain rfl := HCa.out
                        go_wp2_with fail
                        go_meet
                        case rel =>
                          exact ⟨ba, bb, rfl, rfl, ga6.cell, gb6.cell, h6.f.cell, h6.c.cell, h6.u⟩
              refine AllReadyH.cons rfl (fun K hK => ?_) ?_
              · as_aux_lemma =>
                  go_simp
                  obtain ⟨bb, hbb⟩ : ∃ n, n = V2.heap.size := ⟨_, rfl⟩
                  rw [← hbb]
                  obtain ⟨V3, hW⟩ : ∃ X, X = V2.alloc (.cells #[.int .i64 0, .int .i64 0, .bool false, .int .i64 0] 39) := ⟨_, rfl⟩
                  rw [← hW]
                  have h3 : PlanS w Fa Ca V3 := by rw [hW]; exact h2.alloc _
                  have gb3 : Blk V3 bb #[.int .i64 0, .int .i64 0, .bool false, .int .i64 0] 39 := by rw [hW, hbb]; exact Blk.new _ _ _
                  have nbb : w.heap.size + 2 ≤ bb := by have := h2.lt; omega
                  have ga3 : Blk V3 ba #[.int .i64 0, .int .i64 0, .bool false, .int .i64 0] 39 := by rw [hW]; exact ga2.alloc _
                  have nab : ba ≠ bb := by have := ga2.lt; omega
                  clear hW hbb
                  refine hK _ _ h3 (fun _ => ?_)
                  clear hK K
                  (try simp only [Act.put, List.setIfInBounds_toArray, List.set_cons_zero, List.set_cons_succ])
                  refine wpAnyH_ready (rs := [6]) (by kernel_rfl) (by simp) ?_
                  refine AllReadyH.cons rfl (fun K hK => ?_) AllReadyH.nil
                  as_aux_lemma =>
                    go_simp
                    refine (RS V3).mono ?_
                    rintro e V4 ⟨rfl, hb⟩
                    have h4 := h3.below hb
                    have ga4 := ga3.call hb
                    have gb4 := gb3.call hb
                    clear hb
                    refine hK _ _ h4 (fun _ => ?_)
                    clear hK K
                    (try simp only [Act.put, List.setIfInBounds_toArray, List.set_cons_zero, List.set_cons_succ])
                    refine wpAnyH_ready (rs := [9]) (by kernel_rfl) (by simp) ?_
                    refine AllReadyH.cons rfl (fun K hK => ?_) AllReadyH.nil
                    as_aux_lemma =>
                      have cz := ga4.cell
                      have fz := ga4.froz
                      go_simp
                      clear cz fz
                      obtain ⟨V5, hW⟩ : ∃ X, X = ((((V4.setCell ⟨ba, 0, none⟩ (.int .i64 p0)).setCell ⟨ba, 1, none⟩ (.int .i64 p1)).setCell ⟨ba, 2, none⟩ (.bool p2)).setCell ⟨ba, 3, none⟩ (.int .i64 p3)) := ⟨_, rfl⟩
                      rw [← hW]
                      have h5 : PlanS w Fa Ca V5 := by rw [hW]; exact (((h4.set nba _ _).set nba _ _).set nba _ _).set nba _ _
                      have ga5 : Blk V5 ba #[.int .i64 p0, .int .i64 p1, .bool p2, .int .i64 p3] 39 := by rw [hW]; exact (((ga4.set 0 _).set 1 _).set 2 _).set 3 _
                      have gb5 : Blk V5 bb #[.int .i64 0, .int .i64 0, .bool false, .int .i64 0] 39 := by rw [hW]; exact (((gb4.far nab.symm _).far nab.symm _).far nab.symm _).far nab.symm _
                      clear hW
                      refine hK _ _ h5 (fun _ => ?_)
                      clear hK K
                      (try simp only [Act.put, List.setIfInBounds_toArray, List.set_cons_zero, List.set_cons_succ])
                      refine wpAnyH_ready (rs := [10]) (by kernel_rfl) (by simp) ?_
                      refine AllReadyH.cons rfl (fun K hK => ?_) AllReadyH.nil
                      as_aux_lemma =>
                        have cz := gb5.cell
                        have fz := gb5.froz
                        go_simp
                        clear cz fz
                        obtain ⟨V6, hW⟩ : ∃ X, X = ((((V5.setCell ⟨bb, 0, none⟩ (.int .i64 q0)).setCell ⟨bb, 1, none⟩ (.int .i64 q1)).setCell ⟨bb, 2, none⟩ (.bool q2)).setCell ⟨bb, 3, none⟩ (.int .i64 q3)) := ⟨_, rfl⟩
                        rw [← hW]
                        have h6 : PlanS w Fa Ca V6 := by rw [hW]; exact (((h5.set nbb _ _).set nbb _ _).set nbb _ _).set nbb _ _
                        have gb6 : Blk V6 bb #[.int .i64 q0, .int .i64 q1, .bool q2, .int .i64 q3] 39 := by rw [hW]; exact (((gb5.set 0 _).set 1 _).set 2 _).set 3 _
                        have ga6 : Blk V6 ba #[.int .i64 p0, .int .i64 p1, .bool p2, .int .i64 p3] 39 := by rw [hW]; exact (((ga5.far nab _).far nab _).far nab _).far nab _
                        clear hW
                        refine hK _ _ h6 (fun _ => ?_)
                        clear hK K
                        (try simp only [Act.put, List.setIfInBounds_toArray, List.set_cons_zero, List.set_cons_succ])
                        refine wpAnyH_done (by kernel_rfl) ?_ _
                        obtain rfl := HFa.out
                        obtain rfl := HCa.out
                        go_wp2_with fail
                        go_meet
                        case rel =>
                          exact ⟨ba, bb, rfl, rfl, ga6.cell, gb6.cell, h6.f.cell, h6.c.cell, h6.u⟩
              exact AllReadyH.nil
          refine AllReadyH.cons rfl (fun K hK => ?_) ?_
          · as_aux_lemma =>
              go_simp
              obtain ⟨bb, hbb⟩ : ∃ n, n = V1.heap.size := ⟨_, rfl⟩
              rw [← hbb]
              obtain ⟨V2, hW⟩ : ∃ X, X = V1.alloc (.cells #[.int .i64 0, .int .i64 0, .bool false, .int .i64 0] 39) := ⟨_, rfl⟩
              rw [← hW]
              have h2 : PlanS w Fa Ca V2 := by rw [hW]; exact h1.alloc _
              have gb2 : Blk V2 bb #[.int .i64 0, .int .i64 0, .bool false, .int .i64 0] 39 := by rw [hW, hbb]; exact Blk.new _ _ _
              have nbb : w.heap.size + 2 ≤ bb := by have := h1.lt; omega
              clear hW hbb
              refine hK _ _ h2 (fun _ => ?_)
              clear hK K
              (try simp only [Act.put, List.setIfInBounds_toArray, List.set_cons_zero, List.set_cons_succ])
              refine wpAnyH_ready (rs := [6, 7]) (by kernel_rfl) (by simp) ?_
              refine AllReadyH.cons rfl (fun K hK => ?_) ?_
              · as_aux_lemma =>
                  go_simp
                  refine (RS V2).mono ?_
                  rintro e V3 ⟨rfl, hb⟩
                  have h3 := h2.below hb
                  have gb3 := gb2.call hb
                  clear hb
                  refine hK _ _ h3 (fun _ => ?_)
                  clear hK K
                  (try simp only [Act.put, List.setIfInBounds_toArray, List.set_cons_zero, List.set_cons_succ])
                  refine wpAnyH_ready (rs := [7]) (by kernel_rfl) (by simp) ?_
                  refine AllReadyH.cons rfl (fun K hK => ?_) AllReadyH.nil
                  as_aux_lemma =>
                    go_simp
                    obtain ⟨ba, hba⟩ : ∃ n, n = V3.heap.size := ⟨_, rfl⟩
                    rw [← hba]
                    obtain ⟨V4, hW⟩ : ∃ X, X = V3.alloc (.cells #[.int .i64 0, .int .i64 0, .bool false, .int .i64 0] 39) := ⟨_, rfl⟩
                    rw [← hW]
                    have h4 : PlanS w Fa Ca V4 := by rw [hW]; exact h3.alloc _
                    have ga4 : Blk V4 ba #[.int .i64 0, .int .i64 0, .bool false, .int .i64 0] 39 := by rw [hW, hba]; exact Blk.new _ _ _
                    have nba : w.heap.size + 2 ≤ ba := by have := h3.lt; omega
                    have gb4 : Blk V4 bb #[.int .i64 0, .int .i64 0, .bool false, .int .i64 0] 39 := by rw [hW]; exact gb3.alloc _
                    have nab : ba ≠ bb := by have := gb3.lt; omega
                    clear hW hba
                    refine hK _ _ h4 (fun _ => ?_)
                    clear hK K
                    (try simp only [Act.put, List.setIfInBounds_toArray, List.set_cons_zero, List.set_cons_succ])
                    refine wpAnyH_ready (rs := [9]) (by kernel_rfl) (by simp) ?_
                    refine AllReadyH.cons rfl (fun K hK => ?_) AllReadyH.nil
                    as_aux_lemma =>
                      have cz := ga4.cell
                      have fz := ga4.froz
                      go_simp
                      clear cz fz
                      obtain ⟨V5, hW⟩ : ∃ X, X = ((((V4.setCell ⟨ba, 0, none⟩ (.int .i64 p0)).setCell ⟨ba, 1, none⟩ (.int .i64 p1)).setCell ⟨ba, 2, none⟩ (.bool p2)).setCell ⟨ba, 3, none⟩ (.int .i64 p3)) := ⟨_, rfl⟩
                      rw [← hW]
                      have h5 : PlanS w Fa Ca V5 := by rw [hW]; exact (((h4.set nba _ _).set nba _ _).set nba _ _).set nba _ _
                      have ga5 : Blk V5 ba #[.int .i64 p0, .int .i64 p1, .bool p2, .int .i64 p3] 39 := by rw [hW]; exact (((ga4.set 0 _).set 1 _).set 2 _).set 3 _
                      have gb5 : Blk V5 bb #[.int .i64 0, .int .i64 0, .bool false, .int .i64 0] 39 := by rw [hW]; exact (((gb4.far nab.symm _).far nab.symm _).far nab.symm _).far nab.symm _
                      clear hW
                      refine hK _ _ h5 (fun _ => ?_)
                      clear hK K
                      (try simp only [Act.put, List.setIfInBounds_toArray, List.set_cons_zero, List.set_cons_succ])
                      refine wpAnyH_ready (rs := [10]) (by kernel_rfl) (by simp) ?_
                      refine AllReadyH.cons rfl (fun K hK => ?_) AllReadyH.nil
                      as_aux_lemma =>
                        have cz := gb5.cell
                        have fz := gb5.froz
                        go_simp
                        clear cz fz
                        obtain ⟨V6, hW⟩ : ∃ X, X = ((((V5.setCell ⟨bb, 0, none⟩ (.int .i64 q0)).setCell ⟨bb, 1, none⟩ (.int .i64 q1)).setCell ⟨bb, 2, none⟩ (.bool q2)).setCell ⟨bb, 3, none⟩ (.int .i64 q3)) := ⟨_, rfl⟩
                        rw [← hW]
                        have h6 : PlanS w Fa Ca V6 := by rw [hW]; exact (((h5.set nbb _ _).set nbb _ _).set nbb _ _).set nbb _ _
                        have gb6 : Blk V6 bb #[.int .i64 q0, .int .i64 q1, .bool q2, .int .i64 q3] 39 := by rw [hW]; exact (((gb5.set 0 _).set 1 _).set 2 _).set 3 _
                        have ga6 : Blk V6 ba #[.int .i64 p0, .int .i64 p1, .bool p2, .int .i64 p3] 39 := by rw [hW]; exact (((ga5.far nab _).far nab _).far nab _).far nab _
                        clear hW
                        refine hK _ _ h6 (fun _ => ?_)
                        clear hK K
                        (try simp only [Act.put, List.setIfInBounds_toArray, List.set_cons_zero, List.set_cons_succ])
                        refine wpAnyH_done (by kernel_rfl) ?_ _
                        obtain rfl := HFa.out
                        obtain rfl := HCa.out
                        go_wp2_with fail
                        go_meet
                        case rel =>
                          exact ⟨ba, bb, rfl, rfl, ga6.cell, gb6.cell, h6.f.cell, h6.c.cell, h6.u⟩
              refine AllReadyH.cons rfl (fun K hK => ?_) ?_
              · as_aux_lemma =>
                  go_simp
                  obtain ⟨ba, hba⟩ : ∃ n, n = V2.heap.size := ⟨_, rfl⟩
                  rw [← hba]
                  obtain ⟨V3, hW⟩ : ∃ X, X = V2.alloc (.cells #[.int .i64 0, .int .i64 0, .bool false, .int .i64 0] 39) := ⟨_, rfl⟩
                  rw [← hW]
                  have h3 : PlanS w Fa Ca V3 := by rw [hW]; exact h2.alloc _
                  have ga3 : Blk V3 ba #[.int .i64 0, .int .i64 0, .bool false, .int .i64 0] 39 := by rw [hW, hba]; exact Blk.new _ _ _
                  have nba : w.heap.size + 2 ≤ ba := by have := h2.lt; omega
                  have gb3 : Blk V3 bb #[.int .i64 0, .int .i64 0, .bool false, .int .i64 0] 39 := by rw [hW]; exact gb2.alloc _
                  have nab : ba ≠ bb := by have := gb2.lt; omega
                  clear hW hba
                  refine hK _ _ h3 (fun _ => ?_)
                  clear hK K
                  (try simp only [Act.put, List.setIfInBounds_toArray, List.set_cons_zero, List.set_cons_succ])
                  refine wpAnyH_ready (rs := [6]) (by kernel_rfl) (by simp) ?_
                  refine AllReadyH.cons rfl (fun K hK => ?_) AllReadyH.nil
                  as_aux_lemma =>
                    go_simp
                    refine (RS V3).mono ?_
                    rintro e V4 ⟨rfl, hb⟩
                    have h4 := h3.below hb
                    have ga4 := ga3.call hb
                    have gb4 := gb3.call hb
                    clear hb
                    refine hK _ _ h4 (fun _ => ?_)
                    clear hK K
                    (try simp only [Act.put, List.setIfInBounds_toArray, List.set_cons_zero, List.set_cons_succ])
                    refine wpAnyH_ready (rs := [9]) (by kernel_rfl) (by simp) ?_
                    refine AllReadyH.cons rfl (fun K hK => ?_) AllReadyH.nil
                    as_aux_lemma =>
                      have cz := ga4.cell
                      have fz := ga4.froz
                      go_simp
                      clear cz fz
                      obtain ⟨V5, hW⟩ : ∃ X, X = ((((V4.setCell ⟨ba, 0, none⟩ (.int .i64 p0)).setCell ⟨ba, 1, none⟩ (.int .i64 p1)).setCell ⟨ba, 2, none⟩ (.bool p2)).setCell ⟨ba, 3, none⟩ (.int .i64 p3)) := ⟨_, rfl⟩
                      rw [← hW]
                      have h5 : PlanS w Fa Ca V5 := by rw [hW]; exact (((h4.set nba _ _).set nba _ _).set nba _ _).set nba _ _
                      have ga5 : Blk V5 ba #[.int .i64 p0, .int .i64 p1, .bool p2, .int .i64 p3] 39 := by rw [hW]; exact (((ga4.set 0 _).set 1 _).set 2 _).set 3 _
                      have gb5 : Blk V5 bb #[.int .i64 0, .int .i64 0, .bool false, .int .i64 0] 39 := by rw [hW]; exact (((gb4.far nab.symm _).far nab.symm _).far nab.symm _).far nab.symm _
                      clear hW
                      refine hK _ _ h5 (fun _ => ?_)
                      clear hK K
                      (try simp only [Act.put, List.setIfInBounds_toArray, List.set_cons_zero, List.set_cons_succ])
                      refine wpAnyH_ready (rs := [10]) (by kernel_rfl) (by simp) ?_
                      refine AllReadyH.cons rfl (fun K hK => ?_) AllReadyH.nil
                      as_aux_lemma =>
                        have cz := gb5.cell
                        have fz := gb5.froz
                        go_simp
                        clear cz fz
                        obtain ⟨V6, hW⟩ : ∃ X, X = ((((V5.setCell ⟨bb, 0, none⟩ (.int .i64 q0)).setCell ⟨bb, 1, none⟩ (.int .i64 q1)).setCell ⟨bb, 2, none⟩ (.bool q2)).setCell ⟨bb, 3, none⟩ (.int .i64 q3)) := ⟨_, rfl⟩
                        rw [← hW]
                        have h6 : PlanS w Fa Ca V6 := by rw [hW]; exact (((h5.set nbb _ _).set nbb _ _).set nbb _ _).set nbb _ _
                        have gb6 : Blk V6 bb #[.int .i64 q0, .int .i64 q1, .bool q2, .int .i64 q3] 39 := by rw [hW]; exact (((gb5.set 0 _).set 1 _).set 2 _).set 3 _
                        have ga6 : Blk V6 ba #[.int .i64 p0, .int .i64 p1, .bool p2, .int .i64 p3] 39 := by rw [hW]; exact (((ga5.far nab _).far nab _).far nab _).far nab _
                        clear hW
                        refine hK _ _ h6 (fun _ => ?_)
                        clear hK K
                        (try simp only [Act.put, List.setIfInBounds_toArray, List.set_cons_zero, List.set_cons_succ])
                        refine wpAnyH_done (by kernel_rfl) ?_ _
                        obtain rfl := HFa.out
                        obtain rfl := HCa.out
                        go_wp2_with fail
                        go_meet
                        case rel =>
                          exact ⟨ba, bb, rfl, rfl, ga6.cell, gb6.cell, h6.f.cell, h6.c.cell, h6.u⟩
              exact AllReadyH.nil
          exact AllReadyH.nil
      refine AllReadyH.cons rfl (fun K hK => ?_) ?_
      · as_aux_lemma =>
          go_simp
          obtain ⟨ba, hba⟩ : ∃ n, n = V0.heap.size := ⟨_, rfl⟩
          rw [← hba]
          obtain ⟨V1, hW⟩ : ∃ X, X = V0.alloc (.cells #[.int .i64 0, .int .i64 0, .bool false, .int .i64 0] 39) := ⟨_, rfl⟩
          rw [← hW]
          have h1 : PlanS w Fa Ca V1 := by rw [hW]; exact h0.alloc _
          have ga1 : Blk V1 ba #[.int .i64 0, .int .i64 0, .bool false, .int .i64 0] 39 := by rw [hW, hba]; exact Blk.new _ _ _
          have nba : w.heap.size + 2 ≤ ba := by have := h0.lt; omega
          clear hW hba
          refine hK _ _ h1 (fun _ => ?_)
          clear hK K
          (try simp only [Act.put, List.setIfInBounds_toArray, List.set_cons_zero, List.set_cons_succ])
          refine wpAnyH_ready (rs := [2, 8]) (by kernel_rfl) (by simp) ?_
          refine AllReadyH.cons rfl (fun K hK => ?_) ?_
          · as_aux_lemma =>
              go_simp
              refine (RQ V1).mono ?_
              rintro e V2 ⟨rfl, hb⟩
              have h2 := h1.below hb
              have ga2 := ga1.call hb
              clear hb
              refine hK _ _ h2 (fun _ => ?_)
              clear hK K
              (try simp only [Act.put, List.setIfInBounds_toArray, List.set_cons_zero, List.set_cons_succ])
              refine wpAnyH_ready (rs := [6, 8]) (by kernel_rfl) (by simp) ?_
              refine AllReadyH.cons rfl (fun K hK => ?_) ?_
              · as_aux_lemma =>
                  go_simp
                  refine (RS V2).mono ?_
                  rintro e V3 ⟨rfl, hb⟩
                  have h3 := h2.below hb
                  have ga3 := ga2.call hb
                  clear hb
                  refine hK _ _ h3 (fun _ => ?_)
                  clear hK K
                  (try simp only [Act.put, List.setIfInBounds_toArray, List.set_cons_zero, List.set_cons_succ])
                  refine wpAnyH_ready (rs := [8]) (by kernel_rfl) (by simp) ?_
                  refine AllReadyH.cons rfl (fun K hK => ?_) AllReadyH.nil
                  as_aux_lemma =>
                    go_simp
                    obtain ⟨bb, hbb⟩ : ∃ n, n = V3.heap.size := ⟨_, rfl⟩
                    rw [← hbb]
                    obtain ⟨V4, hW⟩ : ∃ X, X = V3.alloc (.cells #[.int .i64 0, .int .i64 0, .bool false, .int .i64 0] 39) := ⟨_, rfl⟩
                    rw [← hW]
                    have h4 : PlanS w Fa Ca V4 := by rw [hW]; exact h3.alloc _
                    have gb4 : Blk V4 bb #[.int .i64 0, .int .i64 0, .bool false, .int .i64 0] 39 := by rw [hW, hbb]; exact Blk.new _ _ _
                    have nbb : w.heap.size + 2 ≤ bb := by have := h3.lt; omega
                    have ga4 : Blk V4 ba #[.int .i64 0, .int .i64 0, .bool false, .int .i64 0] 39 := by rw [hW]; exact ga3.alloc _
                    have nab : ba ≠ bb := by have := ga3.lt; omega
                    clear hW hbb
                    refine hK _ _ h4 (fun _ => ?_)
                    clear hK K
                    (try simp only [Act.put, List.setIfInBounds_toArray, List.set_cons_zero, List.set_cons_succ])
                    refine wpAnyH_ready (rs := [9]) (by kernel_rfl) (by simp) ?_
                    refine AllReadyH.cons rfl (fun K hK => ?_) AllReadyH.nil
                    as_aux_lemma =>
                      have cz := ga4.cell
                      have fz := ga4.froz
                      go_simp
                      clear cz fz
                      obtain ⟨V5, hW⟩ : ∃ X, X = ((((V4.setCell ⟨ba, 0, none⟩ (.int .i64 p0)).setCell ⟨ba, 1, none⟩ (.int .i64 p1)).setCell ⟨ba, 2, none⟩ (.bool p2)).setCell ⟨ba, 3, none⟩ (.int .i64 p3)) := ⟨_, rfl⟩
                      rw [← hW]
                      have h5 : PlanS w Fa Ca V5 := by rw [hW]; exact (((h4.set nba _ _).set nba _ _).set nba _ _).set nba _ _
                      have ga5 : Blk V5 ba #[.int .i64 p0, .int .i64 p1, .bool p2, .int .i64 p3] 39 := by rw [hW]; exact (((ga4.set 0 _).set 1 _).set 2 _).set 3 _
                      have gb5 : Blk V5 bb #[.int .i64 0, .int .i64 0, .bool false, .int .i64 0] 39 := by rw [hW]; exact (((gb4.far nab.symm _).far nab.symm _).far nab.symm _).far nab.symm _
                      clear hW
                      refine hK _ _ h5 (fun _ => ?_)
                      clear hK K
                      (try simp only [Act.put, List.setIfInBounds_toArray, List.set_cons_zero, List.set_cons_succ])
                      refine wpAnyH_ready (rs := [10]) (by kernel_rfl) (by simp) ?_
                      refine AllReadyH.cons rfl (fun K hK => ?_) AllReadyH.nil
                      as_aux_lemma =>
                        have cz := gb5.cell
                        have fz := gb5.froz
                        go_simp
                        clear cz fz
                        obtain ⟨V6, hW⟩ : ∃ X, X = ((((V5.setCell ⟨bb, 0, none⟩ (.int .i64 q0)).setCell ⟨bb, 1, none⟩ (.int .i64 q1)).setCell ⟨bb, 2, none⟩ (.bool q2)).setCell ⟨bb, 3, none⟩ (.int .i64 q3)) := ⟨_, rfl⟩
                        rw [← hW]
                        have h6 : PlanS w Fa Ca V6 := by rw [hW]; exact (((h5.set nbb _ _).set nbb _ _).set nbb _ _).set nbb _ _
                        have gb6 : Blk V6 bb #[.int .i64 q0, .int .i64 q1, .bool q2, .int .i64 q3] 39 := by rw [hW]; exact (((gb5.set 0 _).set 1 _).set 2 _).set 3 _
                        have ga6 : Blk V6 ba #[.int .i64 p0, .int .i64 p1, .bool p2, .int .i64 p3] 39 := by rw [hW]; exact (((ga5.far nab _).far nab _).far nab _).far nab _
                        clear hW
                        refine hK _ _ h6 (fun _ => ?_)
                        clear hK K
                        (try simp only [Act.put, List.setIfInBounds_toArray, List.set_cons_zero, List.set_cons_succ])
                        refine wpAnyH_done (by kernel_rfl) ?_ _
                        obtain rfl := HFa.out
                        obtain rfl := HCa.out
                        go_wp2_with fail
                        go_meet
                        case rel =>
                          exact ⟨ba, bb, rfl, rfl, ga6.cell, gb6.cell, h6.f.cell, h6.c.cell, h6.u⟩
              refine AllReadyH.cons rfl (fun K hK => ?_) ?_
              · as_aux_lemma =>
                  go_simp
                  obtain ⟨bb, hbb⟩ : ∃ n, n = V2.heap.size := ⟨_, rfl⟩
                  rw [← hbb]
                  obtain ⟨V3, hW⟩ : ∃ X, X = V2.alloc (.cells #[.int .i64 0, .int .i64 0, .bool false, .int .i64 0] 39) := ⟨_, rfl⟩
                  rw [← hW]
                  have h3 : PlanS w Fa Ca V3 := by rw [hW]; exact h2.alloc _
                  have gb3 : Blk V3 bb #[.int .i64 0, .int .i64 0, .bool false, .int .i64 0] 39 := by rw [hW, hbb]; exact Blk.new _ _ _
                  have nbb : w.heap.size + 2 ≤ bb := by have := h2.lt; omega
                  have ga3 : Blk V3 ba #[.int .i64 0, .int .i64 0, .bool false, .int .i64 0] 39 := by rw [hW]; exact ga2.alloc _
                  have nab : ba ≠ bb := by have := ga2.lt; omega
                  clear hW hbb
                  refine hK _ _ h3 (fun _ => ?_)
                  clear hK K
                  (try simp only [Act.put, List.setIfInBounds_toArray, List.set_cons_zero, List.set_cons_succ])
                  refine wpAnyH_ready (rs := [6]) (by kernel_rfl) (by simp) ?_
                  refine AllReadyH.cons rfl (fun K hK => ?_) AllReadyH.nil
                  as_aux_lemma =>
                    go_simp
                    refine (RS V3).mono ?_
                    rintro e V4 ⟨rfl, hb⟩
                    have h4 := h3.below hb
                    have ga4 := ga3.call hb
                    have gb4 := gb3.call hb
                    clear hb
                    refine hK _ _ h4 (fun _ => ?_)
                    clear hK K
                    (try simp only [Act.put, List.setIfInBounds_toArray, List.set_cons_zero, List.set_cons_succ])
                    refine wpAnyH_ready (rs := [9]) (by kernel_rfl) (by simp) ?_
                    refine AllReadyH.cons rfl (fun K hK => ?_) AllReadyH.nil
                    as_aux_lemma =>
                      have cz := ga4.cell
                      have fz := ga4.froz
                      go_simp
                      clear cz fz
                      obtain ⟨V5, hW⟩ : ∃ X, X = ((((V4.setCell ⟨ba, 0, none⟩ (.int .i64 p0)).setCell ⟨ba, 1, none⟩ (.int .i64 p1)).setCell ⟨ba, 2, none⟩ (.bool p2)).setCell ⟨ba, 3, none⟩ (.int .i64 p3)) := ⟨_, rfl⟩
                      rw [← hW]
                      have h5 : PlanS w Fa Ca V5 := by rw [hW]; exact (((h4.set nba _ _).set nba _ _).set nba _ _).set nba _ _
                      have ga5 : Blk V5 ba #[.int .i64 p0, .int .i64 p1, .bool p2, .int .i64 p3] 39 := by rw [hW]; exact (((ga4.set 0 _).set 1 _).set 2 _).set 3 _
                      have gb5 : Blk V5 bb #[.int .i64 0, .int .i64 0, .bool false, .int .i64 0] 39 := by rw [hW]; exact (((gb4.far nab.symm _).far nab.symm _).far nab.symm _).far nab.symm _
                      clear hW
                      refine hK _ _ h5 (fun _ => ?_)
                      clear hK K
                      (try simp only [Act.put, List.setIfInBounds_toArray, List.set_cons_zero, List.set_cons_succ])
                      refine wpAnyH_ready (rs := [10]) (by kernel_rfl) (by simp) ?_
                      refine AllReadyH.cons rfl (fun K hK => ?_) AllReadyH.nil
                      as_aux_lemma =>
                        have cz := gb5.cell
                        have fz := gb5.froz
                        go_simp
                        clear cz fz
                        obtain ⟨V6, hW⟩ : ∃ X, X = ((((V5.setCell ⟨bb, 0, none⟩ (.int .i64 q0)).setCell ⟨bb, 1, none⟩ (.int .i64 q1)).setCell ⟨bb, 2, none⟩ (.bool q2)).setCell ⟨bb, 3, none⟩ (.int .i64 q3)) := ⟨_, rfl⟩
                        rw [← hW]
                        have h6 : PlanS w Fa Ca V6 := by rw [hW]; exact (((h5.set nbb _ _).set nbb _ _).set nbb _ _).set nbb _ _
                        have gb6 : Blk V6 bb #[.int .i64 q0, .int .i64 q1, .bool q2, .int .i64 q3] 39 := by rw [hW]; exact (((gb5.set 0 _).set 1 _).set 2 _).set 3 _
                        have ga6 : Blk V6 ba #[.int .i64 p0, .int .i64 p1, .bool p2, .int .i64 p3] 39 := by rw [hW]; exact (((ga5.far nab _).far nab _).far nab _).far nab _
                        clear hW
                        refine hK _ _ h6 (fun _ => ?_)
                        clear hK K
                        (try simp only [Act.put, List.setIfInBounds_toArray, List.set_cons_zero, List.set_cons_succ])
                        refine wpAnyH_done (by kernel_rfl) ?_ _
                        obtain rfl := HFa.out
                        obtain rfl := HCa.out
                        go_wp2_with fail
                        go_meet
                        case rel =>
                          exact ⟨ba, bb, rfl, rfl, ga6.cell, gb6.cell, h6.f.cell, h6.c.cell, h6.u⟩
              exact AllReadyH.nil
          refine AllReadyH.cons rfl (fun K hK => ?_) ?_
          · as_aux_lemma =>
              go_simp
              obtain ⟨bb, hbb⟩ : ∃ n, n = V1.heap.size := ⟨_, rfl⟩
              rw [← hbb]
              obtain ⟨V2, hW⟩ : ∃ X, X = V1.alloc (.cells #[.int .i64 0, .int .i64 0, .bool false, .int .i64 0] 39) := ⟨_, rfl⟩
              rw [← hW]
              have h2 : PlanS w Fa Ca V2 := by rw [hW]; exact h1.alloc _
              have gb2 : Blk V2 bb #[.int .i64 0, .int .i64 0, .bool false, .int .i64 0] 39 := by rw [hW, hbb]; exact Blk.new _ _ _
              have nbb : w.heap.size + 2 ≤ bb := by have := h1.lt; omega
              have ga2 : Blk V2 ba #[.int .i64 0, .int .i64 0, .bool false, .int .i64 0] 39 := by rw [hW]; exact ga1.alloc _
              have nab : ba ≠ bb := by have := ga1.lt; omega
              clear hW hbb
              refine hK _ _ h2 (fun _ => ?_)
              clear hK K
              (try simp only [Act.put, List.setIfInBounds_toArray, List.set_cons_zero, List.set_cons_succ])
              refine wpAnyH_ready (rs := [2]) (by kernel_rfl) (by simp) ?_
              refine AllReadyH.cons rfl (fun K hK => ?_) AllReadyH.nil
              as_aux_lemma =>
                go_simp
                refine (RQ V2).mono ?_
                rintro e V3 ⟨rfl, hb⟩
                have h3 := h2.below hb
                have ga3 := ga2.call hb
                have gb3 := gb2.call hb
                clear hb
                refine hK _ _ h3 (fun _ => ?_)
                clear hK K
                (try simp only [Act.put, List.setIfInBounds_toArray, List.set_cons_zero, List.set_cons_succ])
                refine wpAnyH_ready (rs := [6]) (by kernel_rfl) (by simp) ?_
                refine AllReadyH.cons rfl (fun K hK => ?_) AllReadyH.nil
                as_aux_lemma =>
                  go_simp
                  refine (RS V3).mono ?_
                  rintro e V4 ⟨rfl, hb⟩
                  have h4 := h3.below hb
                  have ga4 := ga3.call hb
                  have gb4 := gb3.call hb
                  clear hb
                  refine hK _ _ h4 (fun _ => ?_)
                  clear hK K
                  (try simp only [Act.put, List.setIfInBounds_toArray, List.set_cons_zero, List.set_cons_succ])
                  refine wpAnyH_ready (rs := [9]) (by kernel_rfl) (by simp) ?_
                  refine AllReadyH.cons rfl (fun K hK => ?_) AllReadyH.nil
                  as_aux_lemma =>
                    have cz := ga4.cell
                    have fz := ga4.froz
                    go_simp
                    clear cz fz
                    obtain ⟨V5, hW⟩ : ∃ X, X = ((((V4.setCell ⟨ba, 0, none⟩ (.int .i64 p0)).setCell ⟨ba, 1, none⟩ (.int .i64 p1)).setCell ⟨ba, 2, none⟩ (.bool p2)).setCell ⟨ba, 3, none⟩ (.int .i64 p3)) := ⟨_, rfl⟩
                    rw [← hW]
                    have h5 : PlanS w Fa Ca V5 := by rw [hW]; exact (((h4.set nba _ _).set nba _ _).set nba _ _).set nba _ _
                    have ga5 : Blk V5 ba #[.int .i64 p0, .int .i64 p1, .bool p2, .int .i64 p3] 39 := by rw [hW]; exact (((ga4.set 0 _).set 1 _).set 2 _).set 3 _
                    have gb5 : Blk V5 bb #[.int .i64 0, .int .i64 0, .bool false, .int .i64 0] 39 := by rw [hW]; exact (((gb4.far nab.symm _).far nab.symm _).far nab.symm _).far nab.symm _
                    clear hW
                    refine hK _ _ h5 (fun _ => ?_)
                    clear hK K
                    (try simp only [Act.put, List.setIfInBounds_toArray, List.set_cons_zero, List.set_cons_succ])
                    refine wpAnyH_ready (rs := [10]) (by kernel_rfl) (by simp) ?_
                    refine AllReadyH.cons rfl (fun K hK => ?_) AllReadyH.nil
                    as_aux_lemma =>
                      have cz := gb5.cell
                      have fz := gb5.froz
                      go_simp
                      clear cz fz
                      obtain ⟨V6, hW⟩ : ∃ X, X = ((((V5.setCell ⟨bb, 0, none⟩ (.int .i64 q0)).setCell ⟨bb, 1, none⟩ (.int .i64 q1)).setCell ⟨bb, 2, none⟩ (.bool q2)).setCell ⟨bb, 3, none⟩ (.int .i64 q3)) := ⟨_, rfl⟩
                      rw [← hW]
                      have h6 : PlanS w Fa Ca V6 := by rw [hW]; exact (((h5.set nbb _ _).set nbb _ _).set nbb _ _).set nbb _ _
                      have gb6 : Blk V6 bb #[.int .i64 q0, .int .i64 q1, .bool q2, .int .i64 q3] 39 := by rw [hW]; exact (((gb5.set 0 _).set 1 _).set 2 _).set 3 _
                      have ga6 : Blk V6 ba #[.int .i64 p0, .int .i64 p1, .bool p2, .int .i64 p3] 39 := by rw [hW]; exact (((ga5.far nab _).far nab _).far nab _).far nab _
                      clear hW
                      refine hK _ _ h6 (fun _ => ?_)
                      clear hK K
                      (try simp only [Act.put, List.setIfInBounds_toArray, List.set_cons_zero, List.set_cons_succ])
                      refine wpAnyH_done (by kernel_rfl) ?_ _
                      obtain rfl := HFa.out
                      obtain rfl := HCa.out
                      go_wp2_with fail
                      go_meet
                      case rel =>
                        exact ⟨ba, bb, rfl, rfl, ga6.cell, gb6.cell, h6.f.cell, h6.c.cell, h6.u⟩
          exact AllReadyH.nil
      refine AllReadyH.cons rfl (fun K hK => ?_) ?_
      · as_aux_lemma =>
          go_simp
          obtain ⟨bb, hbb⟩ : ∃ n, n = V0.heap.size := ⟨_, rfl⟩
          rw [← hbb]
          obtain ⟨V1, hW⟩ : ∃ X, X = V0.alloc (.cells #[.int .i64 0, .int .i64 0, .bool false, .int .i64 0] 39) := ⟨_, rfl⟩
          rw [← hW]
          have h1 : PlanS w Fa Ca V1 := by rw [hW]; exact h0.alloc _
          have gb1 : Blk V1 bb #[.int .i64 0, .int .i64 0, .bool false, .int .i64 0] 39 := by rw [hW, hbb]; exact Blk.new _ _ _
          have nbb : w.heap.size + 2 ≤ bb := by have := h0.lt; omega
          clear hW hbb
          refine hK _ _ h1 (fun _ => ?_)
          clear hK K
          (try simp only [Act.put, List.setIfInBounds_toArray, List.set_cons_zero, List.set_cons_succ])
          refine wpAnyH_ready (rs := [2, 7]) (by kernel_rfl) (by simp) ?_
          refine AllReadyH.cons rfl (fun K hK => ?_) ?_
          · as_aux_lemma =>
              go_simp
              refine (RQ V1).mono ?_
              rintro e V2 ⟨rfl, hb⟩
              have h2 := h1.below hb
              have gb2 := gb1.call hb
              clear hb
              refine hK _ _ h2 (fun _ => ?_)
              clear hK K
              (try simp only [Act.put, List.setIfInBounds_toArray, List.set_cons_zero, List.set_cons_succ])
              refine wpAnyH_ready (rs := [6, 7]) (by kernel_rfl) (by simp) ?_
              refine AllReadyH.cons rfl (fun K hK => ?_) ?_
              · as_aux_lemma =>
                  go_simp
                  refine (RS V2).mono ?_
                  rintro e V3 ⟨rfl, hb⟩
                  have h3 := h2.below hb
                  have gb3 := gb2.call hb
                  clear hb
                  refine hK _ _ h3 (fun _ => ?_)
                  clear hK K
                  (try simp only [Act.put, List.setIfInBounds_toArray, List.set_cons_zero, List.set_cons_succ])
                  refine wpAnyH_ready (rs := [7]) (by kernel_rfl) (by simp) ?_
                  refine AllReadyH.cons rfl (fun K hK => ?_) AllReadyH.nil
                  as_aux_lemma =>
                    go_simp
                    obtain ⟨ba, hba⟩ : ∃ n, n = V3.heap.size := ⟨_, rfl⟩
                    rw [← hba]
                    obtain ⟨V4, hW⟩ : ∃ X, X = V3.alloc (.cells #[.int .i64 0, .int .i64 0, .bool false, .int .i64 0] 39) := ⟨_, rfl⟩
                    rw [← hW]
                    have h4 : PlanS w Fa Ca V4 := by rw [hW]; exact h3.alloc _
                    have ga4 : Blk V4 ba #[.int .i64 0, .int .i64 0, .bool false, .int .i64 0] 39 := by rw [hW, hba]; exact Blk.new _ _ _
                    have nba : w.heap.size + 2 ≤ ba := by have := h3.lt; omega
                    have gb4 : Blk V4 bb #[.int .i64 0, .int .i64 0, .bool false, .int .i64 0] 39 := by rw [hW]; exact gb3.alloc _
                    have nab : ba ≠ bb := by have := gb3.lt; omega
                    clear hW hba
                    refine hK _ _ h4 (fun _ => ?_)
                    clear hK K
                    (try simp only [Act.put, List.setIfInBounds_toArray, List.set_cons_zero, List.set_cons_succ])
                    refine wpAnyH_ready (rs := [9]) (by kernel_rfl) (by simp) ?_
                    refine AllReadyH.cons rfl (fun K hK => ?_) AllReadyH.nil
                    as_aux_lemma =>
                      have cz := ga4.cell
                      have fz := ga4.froz
                      go_simp
                      clear cz fz
                      obtain ⟨V5, hW⟩ : ∃ X, X = ((((V4.setCell ⟨ba, 0, none⟩ (.int .i64 p0)).setCell ⟨ba, 1, none⟩ (.int .i64 p1)).setCell ⟨ba, 2, none⟩ (.bool p2)).setCell ⟨ba, 3, none⟩ (.int .i64 p3)) := ⟨_, rfl⟩
                      rw [← hW]
                      have h5 : PlanS w Fa Ca V5 := by rw [hW]; exact (((h4.set nba _ _).set nba _ _).set nba _ _).set nba _ _
                      have ga5 : Blk V5 ba #[.int .i64 p0, .int .i64 p1, .bool p2, .int .i64 p3] 39 := by rw [hW]; exact (((ga4.set 0 _).set 1 _).set 2 _).set 3 _
                      have gb5 : Blk V5 bb #[.int .i64 0, .int .i64 0, .bool false, .int .i64 0] 39 := by rw [hW]; exact (((gb4.far nab.symm _).far nab.symm _).far nab.symm _).far nab.symm _
                      clear hW
                      refine hK _ _ h5 (fun _ => ?_)
                      clear hK K
                      (try simp only [Act.put, List.setIfInBounds_toArray, List.set_cons_zero, List.set_cons_succ])
                      refine wpAnyH_ready (rs := [10]) (by kernel_rfl) (by simp) ?_
                      refine AllReadyH.cons rfl (fun K hK => ?_) AllReadyH.nil
                      as_aux_lemma =>
                        have cz := gb5.cell
                        have fz := gb5.froz
                        go_simp
                        clear cz fz
                        obtain ⟨V6, hW⟩ : ∃ X, X = ((((V5.setCell ⟨bb, 0, none⟩ (.int .i64 q0)).setCell ⟨bb, 1, none⟩ (.int .i64 q1)).setCell ⟨bb, 2, none⟩ (.bool q2)).setCell ⟨bb, 3, none⟩ (.int .i64 q3)) := ⟨_, rfl⟩
                        rw [← hW]
                        have h6 : PlanS w Fa Ca V6 := by rw [hW]; exact (((h5.set nbb _ _).set nbb _ _).set nbb _ _).set nbb _ _
                        have gb6 : Blk V6 bb #[.int .i64 q0, .int .i64 q1, .bool q2, .int .i64 q3] 39 := by rw [hW]; exact (((gb5.set 0 _).set 1 _).set 2 _).set 3 _
                        have ga6 : Blk V6 ba #[.int .i64 p0, .int .i64 p1, .bool p2, .int .i64 p3] 39 := by rw [hW]; exact (((ga5.far nab _).far nab _).far nab _).far nab _
                        clear hW
                        refine hK _ _ h6 (fun _ => ?_)
                        clear hK K
                        (try simp only [Act.put, List.setIfInBounds_toArray, List.set_cons_zero, List.set_cons_succ])
                        refine wpAnyH_done (by kernel_rfl) ?_ _
                        obtain rfl := HFa.out
                        obtain rfl := HCa.out
                        go_wp2_with fail
                        go_meet
                        case rel =>
                          exact ⟨ba, bb, rfl, rfl, ga6.cell, gb6.cell, h6.f.cell, h6.c.cell, h6.u⟩
              refine AllReadyH.cons rfl (fun K hK => ?_) ?_
              · as_aux_lemma =>
                  go_simp
                  obtain ⟨ba, hba⟩ : ∃ n, n = V2.heap.size := ⟨_, rfl⟩
                  rw [← hba]
                  obtain ⟨V3, hW⟩ : ∃ X, X = V2.alloc (.cells #[.int .i64 0, .int .i64 0, .bool false, .int .i64 0] 39) := ⟨_, rfl⟩
                  rw [← hW]
                  have h3 : PlanS w Fa Ca V3 := by rw [hW]; exact h2.alloc _
                  have ga3 : Blk V3 ba #[.int .i64 0, .int .i64 0, .bool false, .int .i64 0] 39 := by rw [hW, hba]; exact Blk.new _ _ _
                  have nba : w.heap.size + 2 ≤ ba := by have := h2.lt; omega
                  have gb3 : Blk V3 bb #[.int .i64 0, .int .i64 0, .bool false, .int .i64 0] 39 := by rw [hW]; exact gb2.alloc _
                  have nab : ba ≠ bb := by have := gb2.lt; omega
                  clear hW hba
                  refine hK _ _ h3 (fun _ => ?_)
                  clear hK K
                  (try simp only [Act.put, List.setIfInBounds_toArray, List.set_cons_zero, List.set_cons_succ])
                  refine wpAnyH_ready (rs := [6]) (by kernel_rfl) (by simp) ?_
                  refine AllReadyH.cons rfl (fun K hK => ?_) AllReadyH.nil
                  as_aux_lemma =>
                    go_simp
                    refine (RS V3).mono ?_
                    rintro e V4 ⟨rfl, hb⟩
                    have h4 := h3.below hb
                    have ga4 := ga3.call hb
                    have gb4 := gb3.call hb
                    clear hb
                    refine hK _ _ h4 (fun _ => ?_)
                    clear hK K
                    (try simp only [Act.put, List.setIfInBounds_toArray, List.set_cons_zero, List.set_cons_succ])
                    refine wpAnyH_ready (rs := [9]) (by kernel_rfl) (by simp) ?_
                    refine AllReadyH.cons rfl (fun K hK => ?_) AllReadyH.nil
                    as_aux_lemma =>
                      have cz := ga4.cell
                      have fz := ga4.froz
                      go_simp
                      clear cz fz
                      obtain ⟨V5, hW⟩ : ∃ X, X = ((((V4.setCell ⟨ba, 0, none⟩ (.int .i64 p0)).setCell ⟨ba, 1, none⟩ (.int .i64 p1)).setCell ⟨ba, 2, none⟩ (.bool p2)).setCell ⟨ba, 3, none⟩ (.int .i64 p3)) := ⟨_, rfl⟩
                      rw [← hW]
                      have h5 : PlanS w Fa Ca V5 := by rw [hW]; exact (((h4.set nba _ _).set nba _ _).set nba _ _).set nba _ _
                      have ga5 : Blk V5 ba #[.int .i64 p0, .int .i64 p1, .bool p2, .int .i64 p3] 39 := by rw [hW]; exact (((ga4.set 0 _).set 1 _).set 2 _).set 3 _
                      have gb5 : Blk V5 bb #[.int .i64 0, .int .i64 0, .bool false, .int .i64 0] 39 := by rw [hW]; exact (((gb4.far nab.symm _).far nab.symm _).far nab.symm _).far nab.symm _
                      clear hW
                      refine hK _ _ h5 (fun _ => ?_)
                      clear hK K
                      (try simp only [Act.put, List.setIfInBounds_toArray, List.set_cons_zero, List.set_cons_succ])
                      refine wpAnyH_ready (rs := [10]) (by kernel_rfl) (by simp) ?_
                      refine AllReadyH.cons rfl (fun K hK => ?_) AllReadyH.nil
                      as_aux_lemma =>
                        have cz := gb5.cell
                        have fz := gb5.froz
                        go_simp
                        clear cz fz
                        obtain ⟨V6, hW⟩ : ∃ X, X = ((((V5.setCell ⟨bb, 0, none⟩ (.int .i64 q0)).setCell ⟨bb, 1, none⟩ (.int .i64 q1)).setCell ⟨bb, 2, none⟩ (.bool q2)).setCell ⟨bb, 3, none⟩ (.int .i64 q3)) := ⟨_, rfl⟩
                        rw [← hW]
                        have h6 : PlanS w Fa Ca V6 := by rw [hW]; exact (((h5.set nbb _ _).set nbb _ _).set nbb _ _).set nbb _ _
                        have gb6 : Blk V6 bb #[.int .i64 q0, .int .i64 q1, .bool q2, .int .i64 q3] 39 := by rw [hW]; exact (((gb5.set 0 _).set 1 _).set 2 _).set 3 _
                        have ga6 : Blk V6 ba #[.int .i64 p0, .int .i64 p1, .bool p2, .int .i64 p3] 39 := by rw [hW]; exact (((ga5.far nab _).far nab _).far nab _).far nab _
                        clear hW
                        refine hK _ _ h6 (fun _ => ?_)
                        clear hK K
                        (try simp only [Act.put, List.setIfInBounds_toArray, List.set_cons_zero, List.set_cons_succ])
                        refine wpAnyH_done (by kernel_rfl) ?_ _
                        obtain rfl := HFa.out
                        obtain rfl := HCa.out
                        go_wp2_with fail
                        go_meet
                        case rel =>
                          exact ⟨ba, bb, rfl, rfl, ga6.cell, gb6.cell, h6.f.cell, h6.c.cell, h6.u⟩
              exact AllReadyH.nil
          refine AllReadyH.cons rfl (fun K hK => ?_) ?_
          · as_aux_lemma =>
              go_simp
              obtain ⟨ba, hba⟩ : ∃ n, n = V1.heap.size := ⟨_, rfl⟩
              rw [← hba]
              obtain ⟨V2, hW⟩ : ∃ X, X = V1.alloc (.cells #[.int .i64 0, .int .i64 0, .bool false, .int .i64 0] 39) := ⟨_, rfl⟩
              rw [← hW]
              have h2 : PlanS w Fa Ca V2 := by rw [hW]; exact h1.alloc _
              have ga2 : Blk V2 ba #[.int .i64 0, .int .i64 0, .bool false, .int .i64 0] 39 := by rw [hW, hba]; exact Blk.new _ _ _
              have nba : w.heap.size + 2 ≤ ba := by have := h1.lt; omega
              have gb2 : Blk V2 bb #[.int .i64 0, .int .i64 0, .bool false, .int .i64 0] 39 := by rw [hW]; exact gb1.alloc _
              have nab : ba ≠ bb := by have := gb1.lt; omega
              clear hW hba
              refine hK _ _ h2 (fun _ => ?_)
              clear hK K
              (try simp only [Act.put, List.setIfInBounds_toArray, List.set_cons_zero, List.set_cons_succ])
              refine wpAnyH_ready (rs := [2]) (by kernel_rfl) (by simp) ?_
              refine AllReadyH.cons rfl (fun K hK => ?_) AllReadyH.nil
              as_aux_lemma =>
                go_simp
                refine (RQ V2).mono ?_
                rintro e V3 ⟨rfl, hb⟩
                have h3 := h2.below hb
                have ga3 := ga2.call hb
                have gb3 := gb2.call hb
                clear hb
                refine hK _ _ h3 (fun _ => ?_)
                clear hK K
                (try simp only [Act.put, List.setIfInBounds_toArray, List.set_cons_zero, List.set_cons_succ])
                refine wpAnyH_ready (rs := [6]) (by kernel_rfl) (by simp) ?_
                refine AllReadyH.cons rfl (fun K hK => ?_) AllReadyH.nil
                as_aux_lemma =>
                  go_simp
                  refine (RS V3).mono ?_
                  rintro e V4 ⟨rfl, hb⟩
                  have h4 := h3.below hb
                  have ga4 := ga3.call hb
                  have gb4 := gb3.call hb
                  clear hb
                  refine hK _ _ h4 (fun _ => ?_)
                  clear hK K
                  (try simp only [Act.put, List.setIfInBounds_toArray, List.set_cons_zero, List.set_cons_succ])
                  refine wpAnyH_ready (rs := [9]) (by kernel_rfl) (by simp) ?_
                  refine AllReadyH.cons rfl (fun K hK => ?_) AllReadyH.nil
                  as_aux_lemma =>
                    have cz := ga4.cell
                    have fz := ga4.froz
                    go_simp
                    clear cz fz
                    obtain ⟨V5, hW⟩ : ∃ X, X = ((((V4.setCell ⟨ba, 0, none⟩ (.int .i64 p0)).setCell ⟨ba, 1, none⟩ (.int .i64 p1)).setCell ⟨ba, 2, none⟩ (.bool p2)).setCell ⟨ba, 3, none⟩ (.int .i64 p3)) := ⟨_, rfl⟩
                    rw [← hW]
                    have h5 : PlanS w Fa Ca V5 := by rw [hW]; exact (((h4.set nba _ _).set nba _ _).set nba _ _).set nba _ _
                    have ga5 : Blk V5 ba #[.int .i64 p0, .int .i64 p1, .bool p2, .int .i64 p3] 39 := by rw [hW]; exact (((ga4.set 0 _).set 1 _).set 2 _).set 3 _
                    have gb5 : Blk V5 bb #[.int .i64 0, .int .i64 0, .bool false, .int .i64 0] 39 := by rw [hW]; exact (((gb4.far nab.symm _).far nab.symm _).far nab.symm _).far nab.symm _
                    clear hW
                    refine hK _ _ h5 (fun _ => ?_)
                    clear hK K
                    (try simp only [Act.put, List.setIfInBounds_toArray, List.set_cons_zero, List.set_cons_succ])
                    refine wpAnyH_ready (rs := [10]) (by kernel_rfl) (by simp) ?_
                    refine AllReadyH.cons rfl (fun K hK => ?_) AllReadyH.nil
                    as_aux_lemma =>
                      have cz := gb5.cell
                      have fz := gb5.froz
                      go_simp
                      clear cz fz
                      obtain ⟨V6, hW⟩ : ∃ X, X = ((((V5.setCell ⟨bb, 0, none⟩ (.int .i64 q0)).setCell ⟨bb, 1, none⟩ (.int .i64 q1)).setCell ⟨bb, 2, none⟩ (.bool q2)).setCell ⟨bb, 3, none⟩ (.int .i64 q3)) := ⟨_, rfl⟩
                      rw [← hW]
                      have h6 : PlanS w Fa Ca V6 := by rw [hW]; exact (((h5.set nbb _ _).set nbb _ _).set nbb _ _).set nbb _ _
                      have gb6 : Blk V6 bb #[.int .i64 q0, .int .i64 q1, .bool q2, .int .i64 q3] 39 := by rw [hW]; exact (((gb5.set 0 _).set 1 _).set 2 _).set 3 _
                      have ga6 : Blk V6 ba #[.int .i64 p0, .int .i64 p1, .bool p2, .int .i64 p3] 39 := by rw [hW]; exact (((ga5.far nab _).far nab _).far nab _).far nab _
                      clear hW
                      refine hK _ _ h6 (fun _ => ?_)
                      clear hK K
                      (try simp only [Act.put, List.setIfInBounds_toArray, List.set_cons_zero, List.set_cons_succ])
                      refine wpAnyH_done (by kernel_rfl) ?_ _
                      obtain rfl := HFa.out
                      obtain rfl := HCa.out
                      go_wp2_with fail
                      go_meet
                      case rel =>
                        exact ⟨ba, bb, rfl, rfl, ga6.cell, gb6.cell, h6.f.cell, h6.c.cell, h6.u⟩
          exact AllReadyH.nil
      exact AllReadyH.nil
  case rest =>
    as_aux_lemma =>
      unfold PlanMid at hcut
      obtain ⟨b7, b8, rfl, rfl, h7, h8, hF, hC, hbel⟩ := hcut
      have HBEL := Lib.hid hbel
      have a0 := h7 0
      have a1 := h7 1
      have a2 := h7 2
      have d0 := h8 0
      have d1 := h8 1
      have d2 := h8 2
      have f0 := hF 0
      have f1 := hF 1
      have m2 := hC 2
      have m3 := hC 3
      simp only [List.getElem?_toArray, List.getElem?_cons_zero, List.getElem?_cons_succ] at a0 a1 a2 d0 d1 d2 f0 f1 m2 m3
      have hp := HP.out
      have hq := HQ.out
      have hzb := hbel.size
      clear h7 h8 hF hC hbel HP HQ HS HW0
      by_cases k1 : k = 1
      · subst k1
        have hp' : (1, l, false, 0) = (p0, p1, p2, p3) := by rw [← hp]; simp [reqPlan, *]
        have hq' : (1, l, false, 0) = (q0, q1, q2, q3) := by rw [← hq]; simp [resPlan, *]
        clear hp hq
        simp only [Prod.mk.injEq] at hp' hq'
        obtain ⟨rfl, rfl, rfl, rfl⟩ := hp'
        obtain ⟨rfl, rfl, rfl, rfl⟩ := hq'
        as_aux_lemma =>
          go_wp2_with fail
          all_goals
            refine (plives _).mono ?_
            rintro e w' ⟨rfl, hb2⟩
            go_wp2_with fail
            go_ret
            exact ⟨rfl, HBEL.out.trans (hb2.mono hzb)⟩
      by_cases k2 : k = 2
      · subst k2
        by_cases hm : 0 < m
        · by_cases hv : 0 < v
          · skip
            have hp' : (2, 0, false, 0) = (p0, p1, p2, p3) := by rw [← hp]; simp [reqPlan, *]
            have hq' : (2, 0, false, 0) = (q0, q1, q2, q3) := by rw [← hq]; simp [resPlan, *]
            clear hp hq
            simp only [Prod.mk.injEq] at hp' hq'
            obtain ⟨rfl, rfl, rfl, rfl⟩ := hp'
            obtain ⟨rfl, rfl, rfl, rfl⟩ := hq'
            as_aux_lemma =>
              go_wp2_with fail
              all_goals
                refine (plives _).mono ?_
                rintro e w' ⟨rfl, hb2⟩
                go_wp2_with fail
                go_ret
                exact ⟨rfl, HBEL.out.trans (hb2.mono hzb)⟩
          · by_cases hs0 : s = 0
            · subst hs0
              have hp' : (2, 0, false, 0) = (p0, p1, p2, p3) := by rw [← hp]; simp [reqPlan, *]
              have hq' : (1, 0, true, 0) = (q0, q1, q2, q3) := by rw [← hq]; simp [resPlan, *]
              clear hp hq
              simp only [Prod.mk.injEq] at hp' hq'
              obtain ⟨rfl, rfl, rfl, rfl⟩ := hp'
              obtain ⟨rfl, rfl, rfl, rfl⟩ := hq'
              as_aux_lemma =>
                go_wp2_with fail
                all_goals
                  refine (plives _).mono ?_
                  rintro e w' ⟨rfl, hb2⟩
                  go_wp2_with fail
                  go_ret
                  exact ⟨rfl, HBEL.out.trans (hb2.mono hzb)⟩
            · have es : (s == 0) = false := by simpa using hs0
              have hp' : (2, 0, false, 0) = (p0, p1, p2, p3) := by rw [← hp]; simp [reqPlan, *]
              have hq' : (3, 0, false, 0) = (q0, q1, q2, q3) := by rw [← hq]; simp [resPlan, *]
              clear hp hq
              simp only [Prod.mk.injEq] at hp' hq'
              obtain ⟨rfl, rfl, rfl, rfl⟩ := hp'
              obtain ⟨rfl, rfl, rfl, rfl⟩ := hq'
              as_aux_lemma =>
                go_wp2_with fail
                all_goals
                  refine (plives _).mono ?_
                  rintro e w' ⟨rfl, hb2⟩
                  go_wp2_with fail
                  go_ret
                  exact ⟨rfl, HBEL.out.trans (hb2.mono hzb)⟩
        · by_cases hv : 0 < v
          · skip
            have hp' : (1, 0, true, 0) = (p0, p1, p2, p3) := by rw [← hp]; simp [reqPlan, *]
            have hq' : (2, 0, false, 0) = (q0, q1, q2, q3) := by rw [← hq]; simp [resPlan, *]
            clear hp hq
            simp only [Prod.mk.injEq] at hp' hq'
            obtain ⟨rfl, rfl, rfl, rfl⟩ := hp'
            obtain ⟨rfl, rfl, rfl, rfl⟩ := hq'
            as_aux_lemma =>
              go_wp2_with fail
              all_goals
                refine (plives _).mono ?_
                rintro e w' ⟨rfl, hb2⟩
                go_wp2_with fail
                go_ret
                exact ⟨rfl, HBEL.out.trans (hb2.mono hzb)⟩
          · by_cases hs0 : s = 0
            · subst hs0
              have hp' : (1, 0, true, 0) = (p0, p1, p2, p3) := by rw [← hp]; simp [reqPlan, *]
              have hq' : (1, 0, true, 0) = (q0, q1, q2, q3) := by rw [← hq]; simp [resPlan, *]
              clear hp hq
              simp only [Prod.mk.injEq] at hp' hq'
              obtain ⟨rfl, rfl, rfl, rfl⟩ := hp'
              obtain ⟨rfl, rfl, rfl, rfl⟩ := hq'
              as_aux_lemma =>
                go_wp2_with fail
                all_goals
                  refine (plives _).mono ?_
                  rintro e w' ⟨rfl, hb2⟩
                  go_wp2_with fail
                  go_ret
                  exact ⟨rfl, HBEL.out.trans (hb2.mono hzb)⟩
            · have es : (s == 0) = false := by simpa using hs0
              have hp' : (1, 0, true, 0) = (p0, p1, p2, p3) := by rw [← hp]; simp [reqPlan, *]
              have hq' : (3, 0, false, 0) = (q0, q1, q2, q3) := by rw [← hq]; simp [resPlan, *]
              clear hp hq
              simp only [Prod.mk.injEq] at hp' hq'
              obtain ⟨rfl, rfl, rfl, rfl⟩ := hp'
              obtain ⟨rfl, rfl, rfl, rfl⟩ := hq'
              as_aux_lemma =>
                go_wp2_with fail
                all_goals
                  refine (plives _).mono ?_
                  rintro e w' ⟨rfl, hb2⟩
                  go_wp2_with fail
                  go_ret
                  exact ⟨rfl, HBEL.out.trans (hb2.mono hzb)⟩
      by_cases k3 : k = 3
      · subst k3
        by_cases hv : 0 < v
        · skip
          have hp' : (0, 0, false, 0) = (p0, p1, p2, p3) := by rw [← hp]; simp [reqPlan, *]
          have hq' : (2, 0, false, c) = (q0, q1, q2, q3) := by rw [← hq]; simp [resPlan, *]
          clear hp hq
          simp only [Prod.mk.injEq] at hp' hq'
          obtain ⟨rfl, rfl, rfl, rfl⟩ := hp'
          obtain ⟨rfl, rfl, rfl, rfl⟩ := hq'
          as_aux_lemma =>
            go_wp2_with fail
            all_goals
              refine (plives _).mono ?_
              rintro e w' ⟨rfl, hb2⟩
              go_wp2_with fail
              go_ret
              exact ⟨rfl, HBEL.out.trans (hb2.mono hzb)⟩
        · skip
          have hp' : (0, 0, false, 0) = (p0, p1, p2, p3) := by rw [← hp]; simp [reqPlan, *]
          have hq' : (3, 0, false, 0) = (q0, q1, q2, q3) := by rw [← hq]; simp [resPlan, *]
          clear hp hq
          simp only [Prod.mk.injEq] at hp' hq'
          obtain ⟨rfl, rfl, rfl, rfl⟩ := hp'
          obtain ⟨rfl, rfl, rfl, rfl⟩ := hq'
          as_aux_lemma =>
            go_wp2_with fail
            all_goals
              refine (plives _).mono ?_
              rintro e w' ⟨rfl, hb2⟩
              go_wp2_with fail
              go_ret
              exact ⟨rfl, HBEL.out.trans (hb2.mono hzb)⟩
      have e1 : (k == 1) = false := by simpa using k1
      have e2 : (k == 2) = false := by simpa using k2
      have e2' : (k != 2) = true := by simpa using k2
      have e3 : (k == 3) = false := by simpa using k3
      have e3' : (k != 3) = true := by simpa using k3
      have hp' : (0, 0, false, 0) = (p0, p1, p2, p3) := by rw [← hp]; simp [reqPlan, *]
      have hq' : (0, 0, false, 0) = (q0, q1, q2, q3) := by rw [← hq]; simp [resPlan, *]
      clear hp hq
      simp only [Prod.mk.injEq] at hp' hq'
      obtain ⟨rfl, rfl, rfl, rfl⟩ := hp'
      obtain ⟨rfl, rfl, rfl, rfl⟩ := hq'
      as_aux_lemma =>
        go_wp2_with fail
        all_goals
          refine (plives _).mono ?_
          rintro e w' ⟨rfl, hb2⟩
          go_wp2_with fail
          go_ret
          exact ⟨rfl, HBEL.out.trans (hb2.mono hzb)⟩

end Go.Proofs.Ytmkjkodblincbaa

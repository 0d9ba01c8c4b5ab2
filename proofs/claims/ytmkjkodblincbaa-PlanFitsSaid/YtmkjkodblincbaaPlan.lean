/- The plans of package plan: what each call comes to, for every frame, version and setting. No conditions. -/
import Derived.Test.YtmkjkodblincbaaBase
namespace Go.Proofs.Ytmkjkodblincbaa
open Go.RowKit
/-- The plan of a request: frame, kept, chunk. -/
def reqPlan (k l m : Int) : Int × Int × Bool × Int :=
  if k = 1 then (k, l, false, 0) else if k = 2 then (if 0 < m then (2, 0, false, 0) else (1, 0, true, 0)) else (0, 0, false, 0)
def resPlan (k l v s c : Int) : Int × Int × Bool × Int :=
  if k = 1 then (k, l, false, 0) else if k = 2 then (if 0 < v then (2, 0, false, 0) else if s = 0 then (1, 0, true, 0) else (3, 0, false, 0)) else if k = 3 then (if 0 < v then (2, 0, false, c) else (3, 0, false, 0)) else (0, 0, false, 0)
def outV (x : Int × Int × Bool × Int) : Value := .agg #[.int .i64 x.1, .int .i64 x.2.1, .bool x.2.2.1, .int .i64 x.2.2.2]

theorem as_any (k l : Int) (w : World) : Calls Try.prog 46 #[.agg #[.int .i64 k, .int .i64 l]] w fun e w' => e = .returned (outV (k, l, false, 0)) ∧ Below w.heap.size w w' := by
  go_enter Try.func46, Try.ntmps46
  go_wp2
  go_returns
  exact ⟨rfl, ((Below.refl _ _).alloc (Nat.le_refl _) _).alloc (by simp) _⟩
theorem kept_any (w : World) : Calls Try.prog 47 #[] w fun e w' => e = .returned (outV (1, 0, true, 0)) ∧ Below w.heap.size w w' := by
  go_enter Try.func47, Try.ntmps47
  go_wp2
  go_returns
  exact ⟨rfl, ((Below.refl _ _).alloc (Nat.le_refl _) _)⟩

theorem req1 (a : Nat) (o : Nat) (m : Int) (w : World) (hc : w.cell? ⟨a, o + 2, none⟩ = some (.int .i64 m)) : Calls Try.prog 45 #[.pointer (some ⟨a, o, none⟩)] w fun e w' => e = .returned (.bool (decide (0 < m))) ∧ w = w' := by
  go_enter Try.func45, Try.ntmps45
  go_wp2
  go_ret
  exact ⟨rfl, rfl⟩
theorem res1 (a : Nat) (o : Nat) (m : Int) (w : World) (hc : w.cell? ⟨a, o, none⟩ = some (.int .i64 m)) : Calls Try.prog 48 #[.pointer (some ⟨a, o, none⟩)] w fun e w' => e = .returned (.bool (decide (0 < m))) ∧ w = w' := by
  go_enter Try.func48, Try.ntmps48
  go_wp2
  go_ret
  exact ⟨rfl, rfl⟩
set_option maxHeartbeats 1000000 in
theorem request_any (k l m : Int) (c0 c1 c3 c4 c5 c6 c7 c8 c9 c10 c11 c12 c13 c14 c15 c16 c17 : Value) (w : World) :
    Calls Try.prog 14 #[.agg #[.int .i64 k, .int .i64 l], .agg #[c0, c1, .int .i64 m, c3, c4, c5, c6, c7, c8, c9, c10, c11, c12, c13, c14, c15, c16, c17]] w
      fun e w' => e = .returned (outV (reqPlan k l m)) ∧ Below w.heap.size w w' := by
  have fin : ∀ x, x = reqPlan k l m → Hid (x = reqPlan k l m) := fun x h => h
  by_cases k1 : k = 1
  · have F := fin (k, l, false, 0) (by simp [reqPlan, k1])
    subst k1
    go_enter Try.func14, Try.ntmps14
    go_wp2
    go_returns
    rw [← F.out]
    exact ⟨rfl, by go_grown⟩
  have e1 : (k == 1) = false := by simpa using k1
  by_cases k2 : k = 2
  · by_cases hm : 0 < m
    · have F := fin (2, 0, false, 0) (by simp [reqPlan, k2, hm])
      subst k2
      go_enter Try.func14, Try.ntmps14
      go_wp2
      go_returns
      rw [← F.out]
      exact ⟨rfl, by go_grown⟩
    · have F := fin (1, 0, true, 0) (by simp [reqPlan, k2, hm])
      subst k2
      go_enter Try.func14, Try.ntmps14
      go_wp2
      go_returns
      rw [← F.out]
      exact ⟨rfl, by go_grown⟩
  have e2 : (k == 2) = false := by simpa using k2
  have F := fin (0, 0, false, 0) (by simp [reqPlan, k1, k2])
  clear fin
  go_enter Try.func14, Try.ntmps14
  go_wp2
  go_returns
  rw [← F.out]
  exact ⟨rfl, by go_grown⟩
set_option maxHeartbeats 2000000 in
theorem response_any (k l v s c : Int) (c0 c1 c2 c4 c5 c7 c8 c9 c10 c11 c12 c13 c14 c15 c16 c17 : Value) (w : World) :
    Calls Try.prog 15 #[.agg #[.int .i64 k, .int .i64 l], .int .i64 v, .agg #[c0, c1, c2, .int .i64 s, c4, c5, .int .i64 c, c7, c8, c9, c10, c11, c12, c13, c14, c15, c16, c17]] w
      fun e w' => e = .returned (outV (resPlan k l v s c)) ∧ Below w.heap.size w w' := by
  have fin : ∀ x, x = resPlan k l v s c → Hid (x = resPlan k l v s c) := fun x h => h
  by_cases k1 : k = 1
  · have F := fin (k, l, false, 0) (by simp [resPlan, k1])
    subst k1
    go_enter Try.func15, Try.ntmps15
    go_wp2
    go_returns
    rw [← F.out]
    exact ⟨rfl, by go_grown⟩
  have e1 : (k == 1) = false := by simpa using k1
  by_cases k2 : k = 2
  · by_cases hv : 0 < v
    · have F := fin (2, 0, false, 0) (by simp [resPlan, k2, hv])
      subst k2
      go_enter Try.func15, Try.ntmps15
      go_wp2
      go_returns
      rw [← F.out]
      exact ⟨rfl, by go_grown⟩
    by_cases hs : s = 0
    · have F := fin (1, 0, true, 0) (by simp [resPlan, k2, hv, hs])
      subst k2
      subst hs
      go_enter Try.func15, Try.ntmps15
      go_wp2
      go_returns
      rw [← F.out]
      exact ⟨rfl, by go_grown⟩
    have e3 : (s == 0) = false := by simpa using hs
    have F := fin (3, 0, false, 0) (by simp [resPlan, k2, hv, hs])
    subst k2
    go_enter Try.func15, Try.ntmps15
    go_wp2
    go_returns
    rw [← F.out]
    exact ⟨rfl, by go_grown⟩
  have e2 : (k == 2) = false := by simpa using k2
  by_cases k3 : k = 3
  · by_cases hv : 0 < v
    · have F := fin (2, 0, false, c) (by simp [resPlan, k3, hv])
      subst k3
      go_enter Try.func15, Try.ntmps15
      go_wp2
      go_returns
      rw [← F.out]
      exact ⟨rfl, by go_grown⟩
    have F := fin (3, 0, false, 0) (by simp [resPlan, k3, hv])
    subst k3
    go_enter Try.func15, Try.ntmps15
    go_wp2
    go_returns
    rw [← F.out]
    exact ⟨rfl, by go_grown⟩
  have e4 : (k == 3) = false := by simpa using k3
  have F := fin (0, 0, false, 0) (by simp [resPlan, k1, k2, k3])
  clear fin
  go_enter Try.func15, Try.ntmps15
  go_wp2
  go_returns
  rw [← F.out]
  exact ⟨rfl, by go_grown⟩

theorem plives (w : World) : Calls Try.prog 16 #[] w fun e w' => e = .returned (.bool true) ∧ Below w.heap.size w w' := by
  go_enter Try.func16, Try.ntmps16
  go_wp2_with fail
  refine (response_any 3 0 1 0 7 _ _ _ _ _ _ _ _ _ _ _ _ _ _ _ _ _).mono ?_
  rintro e w' ⟨rfl, hb⟩
  have ho : outV (resPlan 3 0 1 0 7) = .agg #[.int .i64 2, .int .i64 0, .bool false, .int .i64 7] := rfl
  rw [ho]
  go_wp2
  go_ret
  exact ⟨rfl, hb⟩
end Go.Proofs.Ytmkjkodblincbaa

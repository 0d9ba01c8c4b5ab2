/- The reference's Same: are two first lines the same? For every pair of heads. -/
import Derived.Test.YtmoofcmmpemdcaaGreatDoorBase
set_option linter.unusedSimpArgs false
set_option linter.unusedVariables false
namespace Go.Proofs.YtmoofcmmpemdcaaGreatDoor
open Go.RowKit
set_option maxRecDepth 100000 in
set_option maxHeartbeats 4000000 in
theorem same_any (m t r m' t' r' : ByteArray) (k n k' n' : Int) (f f' : Value) {p1 p2 p3 p4 p5 : Bool} (h1 : (m.toList == m'.toList) = p1) (h2 : (t.toList == t'.toList) = p2) (h3 : (k == k') = p3) (h4 : (n == n') = p4) (h5 : (r.toList == r'.toList) = p5) (w : World) :
    Calls Tryz.prog 55 #[.agg #[.string m, .string t, .int .i64 k, .int .i64 n, .string r, f], .agg #[.string m', .string t', .int .i64 k', .int .i64 n', .string r', f']] w fun e w' => e = .returned (.bool (p1 && (p2 && (p3 && (p4 && p5))))) ∧ Below w.heap.size w w' := by
  have hc : p1 = false ∨ (p1 = true ∧ p2 = false) ∨ (p1 = true ∧ p2 = true ∧ p3 = false) ∨ (p1 = true ∧ p2 = true ∧ p3 = true ∧ p4 = false) ∨ (p1 = true ∧ p2 = true ∧ p3 = true ∧ p4 = true) := by cases p1 <;> cases p2 <;> cases p3 <;> cases p4 <;> simp
  rcases hc with rfl | ⟨rfl, rfl⟩ | ⟨rfl, rfl, rfl⟩ | ⟨rfl, rfl, rfl, rfl⟩ | ⟨rfl, rfl, rfl, rfl⟩
  all_goals
    go_enter Tryz.func55, Tryz.ntmps55
    go_wp2_with fail
    go_ret
    refine ⟨?_, ((Below.refl _ _).alloc (Nat.le_refl _) _).alloc (by simp) _⟩
    first
      | rfl
      | (rw [← h5]; rfl)
end Go.Proofs.YtmoofcmmpemdcaaGreatDoor

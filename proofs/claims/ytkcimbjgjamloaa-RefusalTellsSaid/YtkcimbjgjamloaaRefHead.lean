/- refusal: the head of a 'Continue', both sides. -/
import Derived.Test.YtkcimbjgjamloaaCivilD
import Derived.Test.YtkcimbjgjamloaaReasonR
namespace Go.Proofs.Ytkcimbjgjamloaa
open Go.RowKit
/-- The number of a version that is spoken. -/
def verN (k : Int) : Int := if 0 < k then 1 else 0
def contS : ByteArray := ⟨#[67, 111, 110, 116, 105, 110, 117, 101]⟩
def contV (k : Int) : Value := .agg #[.string ⟨#[]⟩, .string ⟨#[]⟩, .int .i64 (verN k), .int .i64 100, .string ⟨#[67, 111, 110, 116, 105, 110, 117, 101]⟩, .slice none 0 0]
theorem version_any (k : Int) (h : -9223372036854775808 ≤ k) (h' : k ≤ 9223372036854775807) (w : World) : Calls Try.prog 29 #[.int .i64 k] w fun e w' => e = .returned (.int .i64 (verN k)) ∧ w = w' := by
  by_cases h1 : 1 ≤ k
  · have HV : Hid (verN k = 1) := by show verN k = 1; unfold verN; rw [if_pos (by omega)]
    by_cases h3 : k = 1
    · subst h3
      clear h1
      go_enter Try.func29, Try.ntmps29
      go_wp2_with fail
      go_ret
      rw [HV.out]
      exact ⟨rfl, rfl⟩
    have h2 : 2 ≤ k := by omega
    clear h1 h3
    go_enter Try.func29, Try.ntmps29
    go_wp2_with fail
    go_ret
    rw [HV.out]
    exact ⟨rfl, rfl⟩
  · have HV : Hid (verN k = 0) := by show verN k = 0; unfold verN; rw [if_neg (by omega)]
    have h2 : k ≤ 0 := by omega
    clear h1
    go_enter Try.func29, Try.ntmps29
    go_wp2_with fail
    go_ret
    rw [HV.out]
    exact ⟨rfl, rfl⟩
theorem continue_any (k : Int) (h : -9223372036854775808 ≤ k) (h' : k ≤ 9223372036854775807) (w : World) : Calls Try.prog 11 #[.int .i64 k] w fun e w' => e = .returned (contV k) ∧ Below w.heap.size w w' := by
  have HK := Lib.hid (fun W => version_any k h h' W)
  have HR := Lib.hid (fun W => reason_any 100 W)
  have e : reasonS 100 = ⟨#[67, 111, 110, 116, 105, 110, 117, 101]⟩ := by unfold reasonS; rfl
  rw [e] at HR
  clear e
  obtain ⟨v, hv⟩ : ∃ v, v = verN k := ⟨_, rfl⟩
  unfold contV
  rw [← hv] at HK ⊢
  clear hv
  go_enter Try.func11, Try.ntmps11
  go_wp2_with (first | (go_at_call 29; refine (HK.out _).mono ?_; rintro e' w' ⟨rfl, rfl⟩) | (go_at_call 30; refine (HR.out _).mono ?_; rintro e' w' ⟨rfl, rfl⟩))
  exact bodyPost_ret (results_cell_row Try.results11 _ _ _ _ _ _ _ rfl (heap_alloc_new _ _) Try.underlying29 rfl (by kernel_rfl)) rfl ⟨rfl, (Below.refl _ _).alloc (Nat.le_refl _) _⟩
theorem rcontinue_any (k : Int) (w : World) : Calls Try.prog 12 #[.int .i64 k] w fun e w' => e = .returned (contV k) ∧ Below w.heap.size w w' := by
  by_cases h1 : 0 < k
  · have HV : Hid (verN k = 1) := by show verN k = 1; unfold verN; rw [if_pos h1]
    unfold contV
    rw [HV.out]
    go_enter Try.func12, Try.ntmps12
    go_wp2_with fail
    exact bodyPost_ret (results_cell_row Try.results12 _ _ _ _ _ _ _ rfl (heap_alloc2_old _ _ _) Try.underlying29 rfl (by kernel_rfl)) rfl ⟨rfl, ((Below.refl _ _).alloc (Nat.le_refl _) _).alloc (by rw [World.alloc]; simp) _⟩
  · have HV : Hid (verN k = 0) := by show verN k = 0; unfold verN; rw [if_neg h1]
    have h2 : k ≤ 0 := by omega
    unfold contV
    rw [HV.out]
    clear h1
    go_enter Try.func12, Try.ntmps12
    go_wp2_with fail
    exact bodyPost_ret (results_cell_row Try.results12 _ _ _ _ _ _ _ rfl (heap_alloc2_old _ _ _) Try.underlying29 rfl (by kernel_rfl)) rfl ⟨rfl, ((Below.refl _ _).alloc (Nat.le_refl _) _).alloc (by rw [World.alloc]; simp) _⟩
end Go.Proofs.Ytkcimbjgjamloaa

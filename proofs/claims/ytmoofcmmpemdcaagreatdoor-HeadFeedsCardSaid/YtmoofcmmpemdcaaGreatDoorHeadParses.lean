/- abutmentlaw22.HeadParses, for every kind, all limits and all lines. -/
import Derived.Test.YtmoofcmmpemdcaaGreatDoorHdB
set_option linter.unusedSimpArgs false
set_option linter.unusedVariables false
namespace Go.Proofs.YtmoofcmmpemdcaaGreatDoor
open Go.RowKit
theorem few22_ok {l : List ByteArray} (h : few22 l = true) : l.length ≤ 60 ∧ tot l ≤ 18000 := by
  unfold few22 at h
  rw [Bool.and_eq_true, decide_eq_true_eq, List.all_eq_true] at h
  refine ⟨h.1, ?_⟩
  have : ∀ l : List ByteArray, (∀ s ∈ l, s.size ≤ 300) → tot l ≤ 300 * l.length := by
    intro l
    induction l with
    | nil => intro _; exact Nat.le_refl _
    | cons s r ih =>
      intro hs
      have h1 := ih (fun x hx => hs x (List.mem_cons_of_mem _ hx))
      have h2 := hs s List.mem_cons_self
      rw [tot_cons, List.length_cons]
      omega
  have h2 := this l (fun s hs => of_decide_eq_true (h.2 s hs))
  omega
theorem hsame_self (h : Hd) (f f' : Value) (w : World) (hf : Flds w f h.fs) (hf' : Flds w f' h.fs) (hl : h.fs.length ≤ 1000000) : Calls Tryz.prog 23 #[.agg (h.row f), .agg (h.row f')] w fun e w' => e = .returned (.bool true) ∧ Below w.heap.size w w' := by
  have := hsame_any h.m h.t h.r h.m h.t h.r h.k h.n h.k h.n f f' h.fs h.fs (p1 := true) (p2 := true) (p3 := true) (p4 := true) (p5 := true) (by simp) (by simp) (by simp) (by simp) (by simp) w hf hf' (by omega) (by omega)
  unfold Hd.row
  simpa using this
end Go.Proofs.YtmoofcmmpemdcaaGreatDoor

/- Texts packed for one claim, 51 of 52: EbW EbC. -/
import Derived.Test.YtaojfiegnebbdaaGreatDoorMbkQ40
import Derived.Test.YtaojfiegnebbdaaGreatDoorMbkQ48
import Derived.Deep.Upon
set_option linter.unusedSimpArgs false
set_option linter.unusedVariables false
-- EbW
namespace Go.Proofs.YtaojfiegnebbdaaGreatDoor
open Go.RowKit
end Go.Proofs.YtaojfiegnebbdaaGreatDoor
-- EbC
namespace Go.Proofs.YtaojfiegnebbdaaGreatDoor
open Go.RowKit
theorem nums_of {w : World} {A : Option Addr} {len cap : Nat} {l : List Int} (h : Ints w A len l) : Nums w (.slice A len cap) l := by
 obtain ⟨h1, h2⟩ := h
 subst h1
 refine ⟨A, cap, rfl, fun i hi => ?_⟩
 obtain ⟨b, off, hA, _, hc⟩ := h2 (by omega)
 exact ⟨b, off, hA, (hc i l[i] (List.getElem?_eq_getElem hi)).1⟩
theorem encC_len : ∀ (ps : List ByteArray), (∀ p ∈ ps, p.data.toList.length ≤ 4095) → (encC ps).length ≤ 7 * ps.length + (ps.flatMap fun p => p.data.toList).length
 | [], _ => nR _
 | p :: ps, h => by
   have e : encC (p :: ps) = (figL 16 p.data.toList.length ++ 13 :: 10 :: (p.data.toList ++ [13, 10])) ++ encC ps := rfl
   have ih := encC_len ps (fun q hq => h q (by simp [hq]))
   have hp := h p (by simp)
   have := figL_hexlen p.data.toList.length 2 (by omega)
   rw [e, List.length_append, List.flatMap_cons, List.length_append]
   simp only [List.length_append, List.length_cons, List.length_nil]
   omega
theorem lsum_flds : ∀ (l : List Fd), (∀ g ∈ l, g.1.size ≤ 100 ∧ g.2.size ≤ 300) → lsum (l.map fun f => (flineB f.1 f.2).data.toList) ≤ 404 * l.length
 | [], _ => nR _
 | f :: l, h => by
   have e : lsum ((f :: l).map fun f => (flineB f.1 f.2).data.toList) = (flineB f.1 f.2).data.toList.length + 2 + lsum (l.map fun f => (flineB f.1 f.2).data.toList) := by unfold lsum; simp
   have ih := lsum_flds l (fun g hg => h g (by simp [hg]))
   have h1 := flineB_size f.1 f.2
   obtain ⟨h2, h3⟩ := h f (by simp)
   rw [e, ← Lib.size_eq, List.length_cons]
   omega
theorem few_low {l : List Fd} (h : fewF l = true) : l.length ≤ 40 ∧ ∀ g ∈ l, g.1.size ≤ 100 ∧ g.2.size ≤ 300 := by
 unfold fewF at h
 rw [Bool.and_eq_true, decide_eq_true_eq] at h
 refine ⟨h.1, fun g hg => ?_⟩
 have := List.all_eq_true.1 h.2 g hg
 simpa using this
end Go.Proofs.YtaojfiegnebbdaaGreatDoor
/- The law's Few: are there so few fields, and are they so short? For every slice of fields. -/
import Derived.Test.YtekbmefdaepgcaaLast
namespace Go.Proofs.Ytekbmefdaepgcaa
open Go.RowKit
theorem few_spec {l : List Fld} (h : fewF l = true) : l.length ≤ 40 ∧ ∀ g ∈ l, g.1.size ≤ 1000 ∧ g.2.size ≤ 1000 := by
  unfold fewF at h
  rw [Bool.and_eq_true, decide_eq_true_eq, List.all_eq_true] at h
  refine ⟨h.1, fun g hg => ?_⟩
  have := h.2 g hg
  rw [decide_eq_true_eq] at this
  omega
set_option maxHeartbeats 4000000 in
theorem few_any {w : World} {A : Option Addr} {len cap : Nat} {l : List Fld} (h : Fds w A len l) (hlm : len ≤ 9223372036854775807) :
    Calls Try.prog 8 #[.slice A len cap] w fun e w' => e = .returned (.bool (fewF l)) ∧ Below w.heap.size w w' := by
  have hlen := h.1
  have H := Lib.hid h
  clear h
  by_cases h40 : len ≤ 40
  · have d0 : decide ((40 : Int) < len) = false := by rw [decide_eq_false_iff_not]; omega
    go_enter Try.func8, Try.ntmps8
    go_wp2_with fail
    go_loopw [10] (fun i wr => ∃ k : Nat, k ≤ len ∧ i = .int .i64 k ∧ ((l.take k).all fun f => decide (f.1.size ≤ 100 ∧ f.2.size ≤ 300)) = true ∧ Below w.heap.size w wr) (fun i _ => len - (intOf i).toNat)
    case atStart => exact ⟨0, by omega, rfl, rfl, Below.refl _ _⟩
    case round =>
      obtain ⟨k, hk, rfl, hall, hbel⟩ := hrel
      have HL := Lib.hid hbel
      have HA := Lib.hid hall
      clear hbel hall
      by_cases hlt : k < len
      · obtain ⟨b, off, rfl, hbw, hc⟩ := (H.out.below HL.out).2 (by omega)
        obtain ⟨g, hg⟩ : ∃ g, l[k]? = some g := ⟨l[k]'(by omega), List.getElem?_eq_getElem (by omega)⟩
        obtain ⟨c0, c1⟩ := hc k g hg
        have hge : l[k]'(by omega) = g := by
          rw [List.getElem?_eq_getElem (by omega)] at hg
          exact Option.some.inj hg
        have HM := Lib.hid (List.mem_of_getElem? hg)
        obtain ⟨n, v⟩ := g
        simp only at c0 c1
        have hki : (k : Int) < len := by omega
        have no : ¬ (n.size ≤ 100 ∧ v.size ≤ 300) → Hid (fewF l = false) := fun hx => by
          show fewF l = false
          cases hf : fewF l
          · rfl
          · unfold fewF at hf
            rw [Bool.and_eq_true, List.all_eq_true] at hf
            have := hf.2 _ HM.out
            rw [decide_eq_true_eq] at this
            exact absurd this hx
        have yes : n.size ≤ 100 ∧ v.size ≤ 300 → Hid (((l.take (k + 1)).all fun f => decide (f.1.size ≤ 100 ∧ f.2.size ≤ 300)) = true) := fun hx => by
          show _ = true
          rw [List.take_succ_eq_append_getElem (by omega), List.all_append, HA.out, hge]
          simp only [List.all_cons, List.all_nil, Bool.and_true, Bool.true_and, decide_eq_true_eq]
          exact hx
        by_cases h1 : n.size ≤ 100
        · have e1 : decide ((100 : Int) < n.size) = false := by rw [decide_eq_false_iff_not]; omega
          by_cases h2 : v.size ≤ 300
          · have e2 : decide ((300 : Int) < v.size) = false := by rw [decide_eq_false_iff_not]; omega
            have HY := yes ⟨h1, h2⟩
            clear hc hg hge hbw no yes h1 h2
            go_wp2_with fail
            go_roundw
            case rel => exact ⟨k + 1, by omega, by go_num, HY.out, HL.out.alloc HL.out.size _⟩
            case measure => simp [intOf]; omega
          · have e2 : (300 : Int) < v.size := by omega
            have HY := no (fun h => h2 h.2)
            clear hc hg hge hbw no yes h1 h2
            go_wp2_with fail
            go_ret
            rw [HY.out]
            exact ⟨rfl, HL.out.alloc HL.out.size _⟩
        · have e1 : (100 : Int) < n.size := by omega
          have HY := no (fun h => h1 h.1)
          clear hc hg hge hbw no yes h1
          go_wp2_with fail
          go_ret
          rw [HY.out]
          exact ⟨rfl, HL.out.alloc HL.out.size _⟩
      · obtain rfl : k = len := by omega
        have HY : Hid (fewF l = true) := by
          show fewF l = true
          unfold fewF
          rw [decide_eq_true (by omega)]
          have := HA.out
          rw [List.take_of_length_le (by omega)] at this
          rw [this]; rfl
        go_wp2_with fail
        go_ret
        rw [HY.out]
        exact ⟨rfl, HL.out⟩
  · have d0 : (40 : Int) < len := by omega
    have HY : Hid (fewF l = false) := by show fewF l = false; unfold fewF; rw [decide_eq_false (by omega)]; rfl
    go_enter Try.func8, Try.ntmps8
    go_wp2_with fail
    go_ret
    rw [HY.out]
    exact ⟨rfl, Below.refl _ _⟩
end Go.Proofs.Ytekbmefdaepgcaa

/- Texts packed for one claim, 30 of 35: Last Few. -/
import Derived.Test.YtimcmiokabbkfaaDoorFramingOneQ29
import Derived.Test.YtimcmiokabbkfaaDoorFramingOneQ8
set_option linter.unusedSimpArgs false
set_option linter.unusedVariables false
-- Last
namespace Go.Proofs.YtimcmiokabbkfaaDoor
open Go.RowKit
abbrev Fld := ByteArray × ByteArray
/-- A slice value's fields. -/
def Fds (w : World) (A : Option Addr) (len : Nat) (l : List Fld) : Prop :=
  l.length = len ∧ (0 < len → ∃ b off, A = some ⟨b, off, none⟩ ∧ b < w.heap.size ∧ ∀ (i : Nat) (g : Fld), l[i]? = some g → w.cell? ⟨b, off + i * 2, none⟩ = some (.string g.1) ∧ w.cell? ⟨b, off + i * 2 + 1, none⟩ = some (.string g.2))
theorem Fds.below {w w' : World} {A : Option Addr} {len : Nat} {l : List Fld} (h : Fds w A len l) (hb : Below w.heap.size w w') : Fds w' A len l := by
  refine ⟨h.1, fun h0 => ?_⟩
  obtain ⟨b, off, e, hlt, hc⟩ := h.2 h0
  refine ⟨b, off, e, Nat.lt_of_lt_of_le hlt hb.size, fun i g hg => ?_⟩
  rw [hb.cell (p := ⟨b, off + i * 2, none⟩) hlt, hb.cell (p := ⟨b, off + i * 2 + 1, none⟩) hlt]
  exact hc i g hg
def frow (f : Fld) : ByteArray := flineB f.1 f.2 ++ crlf
/-- The trailers written so far. -/
def lastA (l : List Fld) : ByteArray := l.foldl (fun o f => o ++ frow f) ⟨#[48, 13, 10]⟩
def lastB (l : List Fld) : ByteArray := lastA l ++ crlf
theorem lastA_snoc (l : List Fld) (f : Fld) : lastA (l ++ [f]) = lastA l ++ frow f := by unfold lastA; rw [List.foldl_append]; rfl
theorem cline_zero : clineB 0 = ⟨#[48, 13, 10]⟩ := by
  unfold clineB hexB
  rw [if_neg (by decide), if_neg (by decide), show (0 : Int).natAbs = 0 from rfl, figL_low (by decide)]
  rfl
theorem frow_size (f : Fld) : (frow f).size ≤ f.1.size + f.2.size + 4 := by
  have := flineB_size f.1 f.2
  unfold frow
  rw [ByteArray.size_append]
  show (flineB f.1 f.2).size + 2 ≤ _
  omega
theorem lastA_size (l : List Fld) (hs : ∀ g ∈ l, g.1.size ≤ 1000 ∧ g.2.size ≤ 1000) : ∀ k, k ≤ l.length → (lastA (l.take k)).size ≤ 3 + 2004 * k
  | 0, _ => by rw [List.take_zero]; exact Nat.le_refl _
  | k + 1, h => by
    have h1 := lastA_size l hs k (by omega)
    rw [List.take_succ_eq_append_getElem (by omega), lastA_snoc, ByteArray.size_append]
    have h2 := frow_size (l[k]'(by omega))
    have h3 := hs (l[k]'(by omega)) (List.getElem_mem _)
    omega
/-- Are there so few fields, and are they so short? -/
def fewF (l : List Fld) : Bool := decide (l.length ≤ 40) && l.all fun f => decide (f.1.size ≤ 100 ∧ f.2.size ≤ 300)
end Go.Proofs.YtimcmiokabbkfaaDoor
-- Few
namespace Go.Proofs.YtimcmiokabbkfaaDoor
open Go.RowKit
theorem few_spec {l : List Fld} (h : fewF l = true) : l.length ≤ 40 ∧ ∀ g ∈ l, g.1.size ≤ 1000 ∧ g.2.size ≤ 1000 := by
  unfold fewF at h
  rw [Bool.and_eq_true, decide_eq_true_eq, List.all_eq_true] at h
  refine ⟨h.1, fun g hg => ?_⟩
  have := h.2 g hg
  rw [decide_eq_true_eq] at this
  omega
set_option maxRecDepth 100000 in
set_option maxHeartbeats 4000000 in
theorem few_any {w : World} {A : Option Addr} {len cap : Nat} {l : List Fld} (h : Fds w A len l) (hlm : len ≤ 9223372036854775807) :
    Calls Tryd.prog 19 #[.slice A len cap] w fun e w' => e = .returned (.bool (fewF l)) ∧ Below w.heap.size w w' := by
  have hlen := h.1
  have H := Lib.hid h
  clear h
  by_cases h40 : len ≤ 40
  · have d0 : decide ((40 : Int) < len) = false := by rw [decide_eq_false_iff_not]; omega
    go_enter Tryd.func19, Tryd.ntmps19
    go_wp2_with fail
    go_loopw [10] (fun i wr => ∃ k : Nat, k ≤ len ∧ i = .int .i64 k ∧ ((l.take k).all fun f => decide (f.1.size ≤ 100 ∧ f.2.size ≤ 300)) = true ∧ Below w.heap.size w wr) (fun i _ => len - (intOf i).toNat)
    case atStart => exact ⟨0, by omega, rfl, rfl, Below.refl _ _⟩
    case round =>
      obtain ⟨k, hk, rfl, hall, hbel⟩ := hrel
      have HL := Lib.hid hbel
      have HA := Lib.hid hall
      clear hbel hall
      by_cases hlt : k < len
      · obtain ⟨b, off, rfl, hbw, hc⟩ := (H.out.below HL.out).2 (by omega)
        obtain ⟨g, hg⟩ : ∃ g, l[k]? = some g := ⟨l[k]'(by omega), List.getElem?_eq_getElem (by omega)⟩
        obtain ⟨c0, c1⟩ := hc k g hg
        have hge : l[k]'(by omega) = g := by
          rw [List.getElem?_eq_getElem (by omega)] at hg
          exact Option.some.inj hg
        have HM := Lib.hid (List.mem_of_getElem? hg)
        obtain ⟨n, v⟩ := g
        simp only at c0 c1
        have hki : (k : Int) < len := by omega
        have no : ¬ (n.size ≤ 100 ∧ v.size ≤ 300) → Hid (fewF l = false) := fun hx => by
          show fewF l = false
          cases hf : fewF l
          · rfl
          · unfold fewF at hf
            rw [Bool.and_eq_true, List.all_eq_true] at hf
            have := hf.2 _ HM.out
            rw [decide_eq_true_eq] at this
            exact absurd this hx
        have yes : n.size ≤ 100 ∧ v.size ≤ 300 → Hid (((l.take (k + 1)).all fun f => decide (f.1.size ≤ 100 ∧ f.2.size ≤ 300)) = true) := fun hx => by
          show _ = true
          rw [List.take_succ_eq_append_getElem (by omega), List.all_append, HA.out, hge]
          simp only [List.all_cons, List.all_nil, Bool.and_true, Bool.true_and, decide_eq_true_eq]
          exact hx
        by_cases h1 : n.size ≤ 100
        · have e1 : decide ((100 : Int) < n.size) = false := by rw [decide_eq_false_iff_not]; omega
          by_cases h2 : v.size ≤ 300
          · have e2 : decide ((300 : Int) < v.size) = false := by rw [decide_eq_false_iff_not]; omega
            have HY := yes ⟨h1, h2⟩
            clear hc hg hge hbw no yes h1 h2
            go_wp2_with fail
            go_roundw
            case rel => exact ⟨k + 1, by omega, by go_num, HY.out, HL.out.alloc HL.out.size _⟩
            case measure => simp [intOf]; omega
          · have e2 : (300 : Int) < v.size := by omega
            have HY := no (fun h => h2 h.2)
            clear hc hg hge hbw no yes h1 h2
            go_wp2_with fail
            go_ret
            rw [HY.out]
            exact ⟨rfl, HL.out.alloc HL.out.size _⟩
        · have e1 : (100 : Int) < n.size := by omega
          have HY := no (fun h => h1 h.1)
          clear hc hg hge hbw no yes h1
          go_wp2_with fail
          go_ret
          rw [HY.out]
          exact ⟨rfl, HL.out.alloc HL.out.size _⟩
      · obtain rfl : k = len := by omega
        have HY : Hid (fewF l = true) := by
          show fewF l = true
          unfold fewF
          rw [decide_eq_true (by omega)]
          have := HA.out
          rw [List.take_of_length_le (by omega)] at this
          rw [this]; rfl
        go_wp2_with fail
        go_ret
        rw [HY.out]
        exact ⟨rfl, HL.out⟩
  · have d0 : (40 : Int) < len := by omega
    have HY : Hid (fewF l = false) := by show fewF l = false; unfold fewF; rw [decide_eq_false (by omega)]; rfl
    go_enter Tryd.func19, Tryd.ntmps19
    go_wp2_with fail
    go_ret
    rw [HY.out]
    exact ⟨rfl, Below.refl _ _⟩
end Go.Proofs.YtimcmiokabbkfaaDoor

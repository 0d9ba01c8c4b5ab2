/- Texts packed for one claim, 30 of 34: Short. -/
import Derived.Test.YtcpjkemjpgggcaaGreatDoorFraQ29
import Derived.Test.YtcpjkemjpgggcaaGreatDoorFraQ13
set_option linter.unusedSimpArgs false
set_option linter.unusedVariables false
-- Short
namespace Go.Proofs.YtcpjkemjpgggcaaGreatDoor
open Go.RowKit
theorem flds_of {w : World} {A : Option Addr} {len cap : Nat} {l : List Fd} (h : Fds w A len l) : Flds w (.slice A len cap) l := by
  refine ⟨A, cap, by rw [h.1], fun i hi => ?_⟩
  obtain ⟨b, off, e, _, hc⟩ := h.2 (by have := h.1; omega)
  obtain ⟨c0, c1⟩ := hc i l[i] (List.getElem?_eq_getElem hi)
  exact ⟨b, off, e, by rw [Nat.mul_comm 2 i]; exact c0, by rw [Nat.mul_comm 2 i]; exact c1⟩
def shortP (m t r : ByteArray) (l : List Fd) : Bool := fewF l && (decide (m.size ≤ 100) && (decide (t.size ≤ 500) && decide (r.size ≤ 300)))
theorem shortP_ok {m t r : ByteArray} {l : List Fd} (h : shortP m t r l = true) : l.length ≤ 40 ∧ (∀ g ∈ l, g.1.size ≤ 1000 ∧ g.2.size ≤ 1000) ∧ m.size ≤ 1000 ∧ t.size ≤ 1000 ∧ r.size ≤ 1000 := by
  unfold shortP fewF at h
  simp only [Bool.and_eq_true, decide_eq_true_eq, List.all_eq_true] at h
  obtain ⟨⟨h1, h2⟩, h3, h4, h5⟩ := h
  refine ⟨h1, fun g hg => ?_, by omega, by omega, by omega⟩
  have := h2 g hg
  omega
set_option maxRecDepth 100000 in
set_option maxHeartbeats 4000000 in
theorem short_any {w : World} {A : Option Addr} {len cap : Nat} {l : List Fd} (m t r : ByteArray) (k n : Int) (h : Fds w A len l) (hl : len ≤ 9223372036854775807) :
    Calls Tryz.prog 7 #[.agg #[.string m, .string t, .int .i64 k, .int .i64 n, .string r, .slice A len cap]] w fun e w' => e = .returned (.bool (shortP m t r l)) ∧ Below w.heap.size w w' := by
  have hb0 : Below w.heap.size w (w.alloc (.cells #[.string m, .string t, .int .i64 k, .int .i64 n, .string r, .slice A len cap] 24)) := (Below.refl _ _).alloc (Nat.le_refl _) _
  have HF := Lib.hid (few_any (cap := cap) (h.below hb0) hl)
  have KR := Lib.hid (Blk.new w #[.string m, .string t, .int .i64 k, .int .i64 n, .string r, .slice A len cap] 24)
  obtain ⟨p1, h1⟩ : ∃ p, p = fewF l := ⟨_, rfl⟩
  have HR : Hid (shortP m t r l = (p1 && (decide (m.size ≤ 100) && (decide (t.size ≤ 500) && decide (r.size ≤ 300))))) := by show _ = _; unfold shortP; rw [h1]
  rw [← h1] at HF
  clear h h1 hl hb0
  have dm : decide ((m.size : Int) ≤ 100) = decide (m.size ≤ 100) := decide_eq_decide.2 (by omega)
  have dt : decide ((t.size : Int) ≤ 500) = decide (t.size ≤ 500) := decide_eq_decide.2 (by omega)
  have dr : decide ((r.size : Int) ≤ 300) = decide (r.size ≤ 300) := decide_eq_decide.2 (by omega)
  have HD := Lib.hid (And.intro dm (And.intro dt dr))
  clear dm dt dr
  cases p1
  · go_enter Tryz.func7, Tryz.ntmps7
    go_wp2_with (go_at_call 15; refine HF.out.mono ?_; rintro e1 w1 ⟨rfl, hb1⟩; have HB1 := Lib.hid (below_one hb1); clear hb1)
    go_ret
    exact ⟨by rw [HR.out]; rfl, HB1.out⟩
  · by_cases hm : m.size ≤ 100 <;> by_cases ht : t.size ≤ 500 <;> by_cases hr : r.size ≤ 300
    all_goals
      first | (have dm : decide ((m.size : Int) ≤ 100) = true := decide_eq_true (by omega)) | (have dm : decide ((m.size : Int) ≤ 100) = false := decide_eq_false (by omega))
      first | (have dt : decide ((t.size : Int) ≤ 500) = true := decide_eq_true (by omega)) | (have dt : decide ((t.size : Int) ≤ 500) = false := decide_eq_false (by omega))
      first | (have dr : decide ((r.size : Int) ≤ 300) = true := decide_eq_true (by omega)) | (have dr : decide ((r.size : Int) ≤ 300) = false := decide_eq_false (by omega))
      go_enter Tryz.func7, Tryz.ntmps7
      go_wp2_with (go_at_call 15; refine HF.out.mono ?_; rintro e1 w1 ⟨rfl, hb1⟩; have HB1 := Lib.hid (below_one hb1); have K1 := Lib.hid (KR.out.call hb1); have x0 := K1.out.cell 0; have x1 := K1.out.cell 1; have x4 := K1.out.cell 4; simp at x0 x1 x4; clear hb1)
      go_ret
      refine ⟨?_, HB1.out⟩
      rw [HR.out]
      simp [hm, ht, hr]
end Go.Proofs.YtcpjkemjpgggcaaGreatDoor

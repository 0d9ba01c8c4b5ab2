/- abutmentlaw22.Short and HeadPrints, for every head. -/
import Derived.Test.YtcgjpkkhebpdfaaGreatDoorHdF
set_option linter.unusedSimpArgs false
set_option linter.unusedVariables false
namespace Go.Proofs.YtcgjpkkhebpdfaaGreatDoor
open Go.RowKit
theorem flds_of {w : World} {A : Option Addr} {len cap : Nat} {l : List Fd} (h : Fds w A len l) : Flds w (.slice A len cap) l := by
  refine ⟨A, cap, by rw [h.1], fun i hi => ?_⟩
  obtain ⟨b, off, e, _, hc⟩ := h.2 (by have := h.1; omega)
  obtain ⟨c0, c1⟩ := hc i l[i] (List.getElem?_eq_getElem hi)
  exact ⟨b, off, e, by rw [Nat.mul_comm 2 i]; exact c0, by rw [Nat.mul_comm 2 i]; exact c1⟩
def shortP (m t r : ByteArray) (l : List Fd) : Bool := fewF l && (decide (m.size ≤ 100) && (decide (t.size ≤ 500) && decide (r.size ≤ 300)))
theorem shortP_ok {m t r : ByteArray} {l : List Fd} (h : shortP m t r l = true) : l.length ≤ 40 ∧ (∀ g ∈ l, g.1.size ≤ 1000 ∧ g.2.size ≤ 1000) ∧ m.size ≤ 1000 ∧ t.size ≤ 1000 ∧ r.size ≤ 1000 := by
  unfold shortP fewF at h
  simp only [Bool.and_eq_true, decide_eq_true_eq, List.all_eq_true] at h
  obtain ⟨⟨h1, h2⟩, h3, h4, h5⟩ := h
  refine ⟨h1, fun g hg => ?_, by omega, by omega, by omega⟩
  have := h2 g hg
  omega
set_option maxRecDepth 100000 in
set_option maxHeartbeats 4000000 in
theorem short_any {w : World} {A : Option Addr} {len cap : Nat} {l : List Fd} (m t r : ByteArray) (k n : Int) (h : Fds w A len l) (hl : len ≤ 9223372036854775807) :
    Calls Tryz.prog 19 #[.agg #[.string m, .string t, .int .i64 k, .int .i64 n, .string r, .slice A len cap]] w fun e w' => e = .returned (.bool (shortP m t r l)) ∧ Below w.heap.size w w' := by
  have hb0 : Below w.heap.size w (w.alloc (.cells #[.string m, .string t, .int .i64 k, .int .i64 n, .string r, .slice A len cap] 29)) := (Below.refl _ _).alloc (Nat.le_refl _) _
  have HF := Lib.hid (few_any (cap := cap) (h.below hb0) hl)
  have KR := Lib.hid (Blk.new w #[.string m, .string t, .int .i64 k, .int .i64 n, .string r, .slice A len cap] 29)
  obtain ⟨p1, h1⟩ : ∃ p, p = fewF l := ⟨_, rfl⟩
  have HR : Hid (shortP m t r l = (p1 && (decide (m.size ≤ 100) && (decide (t.size ≤ 500) && decide (r.size ≤ 300))))) := by show _ = _; unfold shortP; rw [h1]
  rw [← h1] at HF
  clear h h1 hl hb0
  have dm : decide ((m.size : Int) ≤ 100) = decide (m.size ≤ 100) := decide_eq_decide.2 (by omega)
  have dt : decide ((t.size : Int) ≤ 500) = decide (t.size ≤ 500) := decide_eq_decide.2 (by omega)
  have dr : decide ((r.size : Int) ≤ 300) = decide (r.size ≤ 300) := decide_eq_decide.2 (by omega)
  have HD := Lib.hid (And.intro dm (And.intro dt dr))
  clear dm dt dr
  cases p1
  · go_enter Tryz.func19, Tryz.ntmps19
    go_wp2_with (go_at_call 37; refine HF.out.mono ?_; rintro e1 w1 ⟨rfl, hb1⟩; have HB1 := Lib.hid (below_one hb1); clear hb1)
    go_ret
    exact ⟨by rw [HR.out]; rfl, HB1.out⟩
  · by_cases hm : m.size ≤ 100 <;> by_cases ht : t.size ≤ 500 <;> by_cases hr : r.size ≤ 300
    all_goals
      first | (have dm : decide ((m.size : Int) ≤ 100) = true := decide_eq_true (by omega)) | (have dm : decide ((m.size : Int) ≤ 100) = false := decide_eq_false (by omega))
      first | (have dt : decide ((t.size : Int) ≤ 500) = true := decide_eq_true (by omega)) | (have dt : decide ((t.size : Int) ≤ 500) = false := decide_eq_false (by omega))
      first | (have dr : decide ((r.size : Int) ≤ 300) = true := decide_eq_true (by omega)) | (have dr : decide ((r.size : Int) ≤ 300) = false := decide_eq_false (by omega))
      go_enter Tryz.func19, Tryz.ntmps19
      go_wp2_with (go_at_call 37; refine HF.out.mono ?_; rintro e1 w1 ⟨rfl, hb1⟩; have HB1 := Lib.hid (below_one hb1); have K1 := Lib.hid (KR.out.call hb1); have x0 := K1.out.cell 0; have x1 := K1.out.cell 1; have x4 := K1.out.cell 4; simp at x0 x1 x4; clear hb1)
      go_ret
      refine ⟨?_, HB1.out⟩
      rw [HR.out]
      simp [hm, ht, hr]
set_option maxRecDepth 100000 in
set_option maxHeartbeats 4000000 in
theorem headPrints_any {w : World} {A : Option Addr} {len cap : Nat} {l : List Fd} (m t r : ByteArray) (k n : Int) (h : Fds w A len l) (hl : len ≤ 9223372036854775807) (hn : -9223372036854775808 ≤ n) (hn' : n ≤ 9223372036854775807) {mx : Int} (hm : w.cell? ⟨0, 0, none⟩ = some (.int .i64 mx)) :
    Calls Tryz.prog 5 #[.agg #[.string m, .string t, .int .i64 k, .int .i64 n, .string r, .slice A len cap]] w fun e w' => e = .returned (.bool true) ∧ Below w.heap.size w w' := by
  have HM := Lib.hid hm
  have hb0 : Below w.heap.size w (w.alloc (.cells #[.string m, .string t, .int .i64 k, .int .i64 n, .string r, .slice A len cap] 29)) := (Below.refl _ _).alloc (Nat.le_refl _) _
  have HSH := Lib.hid (short_any (cap := cap) m t r k n (h.below hb0) hl)
  have KR := Lib.hid (Blk.new w #[.string m, .string t, .int .i64 k, .int .i64 n, .string r, .slice A len cap] 29)
  have HB0 := Lib.hid hb0
  have HLV := Lib.hid (fun (W : World) (hW : Below w.heap.size w W) => hlives_any W (mx_below HM.out hW))
  have H := Lib.hid h
  cases hS : shortP m t r l with
  | false =>
    rw [hS] at HSH
    clear h hl hm hb0 hS hn hn'
    go_enter Tryz.func5, Tryz.ntmps5
    go_wp2_with (first
      | (go_at_call 19; refine HSH.out.mono ?_; rintro e1 w1 ⟨rfl, hb1⟩; have HB1 := Lib.hid (below_one hb1); clear hb1)
      | (go_at_call 8; refine (HLV.out _ HB1.out).mono ?_; rintro e2 w2 ⟨rfl, hb2⟩; have HB2 := Lib.hid (HB1.out.trans (hb2.mono HB1.out.size)); clear hb2))
    go_ret
    exact ⟨rfl, HB2.out⟩
  | true =>
    rw [hS] at HSH
    obtain ⟨s1, s2, s3, s4, s5⟩ := shortP_ok hS
    have hlen := h.1
    obtain ⟨P, hP⟩ : ∃ P, P = printB m t k n r l := ⟨_, rfl⟩
    obtain ⟨Q, hQ⟩ : ∃ Q, Q = rightP m t k n r l := ⟨_, rfl⟩
    have HP1 : Hid (∀ W, Below w.heap.size w W → Calls Tryz.prog 20 #[.agg #[.string m, .string t, .int .i64 k, .int .i64 n, .string r, .slice A len cap]] W fun e w' => e = .returned (.string P) ∧ Below W.heap.size W w') := fun W hW => by rw [hP]; exact hprint_any m t r k n (H.out.below hW) (by omega) s2 s3 s4 s5 hn hn'
    have HP2 : Hid (∀ W, Below w.heap.size w W → Calls Tryz.prog 21 #[.agg #[.string m, .string t, .int .i64 k, .int .i64 n, .string r, .slice A len cap]] W fun e w' => e = .returned (.string P) ∧ Below W.heap.size W w') := fun W hW => by rw [hP]; exact rprint_any m t r k n (H.out.below hW) (by omega) s2 s3 s4 s5 hn hn'
    have hfl : Flds w (.slice A len cap) l := flds_of H.out
    have HR1 : Hid (∀ W, Below w.heap.size w W → Calls Tryz.prog 22 #[.agg #[.string m, .string t, .int .i64 k, .int .i64 n, .string r, .slice A len cap]] W fun e w' => e = .returned (.bool Q) ∧ Below W.heap.size W w') := fun W hW => by rw [hQ]; exact hright_any m t r k n _ l (by omega) (by omega) (by omega) W (hfl.below hW) (by omega) s2
    have HR2 : Hid (∀ W, Below w.heap.size w W → Calls Tryz.prog 23 #[.agg #[.string m, .string t, .int .i64 k, .int .i64 n, .string r, .slice A len cap]] W fun e w' => e = .returned (.bool Q) ∧ Below W.heap.size W w') := fun W hW => by rw [hQ]; exact rright_any m t r k n _ l (by omega) (by omega) (by omega) W (hfl.below hW) (by omega) s2
    obtain ⟨I, hIe⟩ : ∃ I : World → Prop, I = fun x => Blk x w.heap.size #[.string m, .string t, .int .i64 k, .int .i64 n, .string r, .slice A len cap] 29 ∧ Below w.heap.size w x := ⟨_, rfl⟩
    have HIO := Lib.hid (show ∀ x, I x → Blk x w.heap.size #[.string m, .string t, .int .i64 k, .int .i64 n, .string r, .slice A len cap] 29 ∧ Below w.heap.size w x by rw [hIe]; exact fun _ h => h)
    have HIM : Hid (∀ x x', I x → Below x.heap.size x x' → I x') := by
      show ∀ x x', I x → Below x.heap.size x x' → I x'
      rw [hIe]
      exact fun x x' h hb => ⟨h.1.call hb, h.2.trans (hb.mono h.2.size)⟩
    have HIN : Hid (∀ x, Blk x w.heap.size #[.string m, .string t, .int .i64 k, .int .i64 n, .string r, .slice A len cap] 29 → Below w.heap.size w x → I x) := by
      show ∀ x, _ → _ → I x
      rw [hIe]
      exact fun x h1 h2 => ⟨h1, h2⟩
    clear h hl hm hb0 hS hn hn' s1 s2 s3 s4 s5 hlen hP hQ hfl hIe
    go_enter Tryz.func5, Tryz.ntmps5
    go_wp2_with (go_at_call 19; refine HSH.out.mono ?_; rintro e1 w1 ⟨rfl, hb1⟩; have HB1 := Lib.hid (below_one hb1); have K1 := Lib.hid (KR.out.call hb1); clear hb1)
    have hI0 : I w1.drew := HIN.out _ K1.out.drew HB1.out.drew
    have NI : Nonempty (Cl I) := ⟨⟨_, hI0⟩⟩
    have HI0 := Lib.hid hI0
    have q0 : ∀ s : Cl I, s.val.cell? ⟨w.heap.size, 0, none⟩ = some (.string m) := fun s => (HIO.out _ s.ok).1.cell 0
    have q1 : ∀ s : Cl I, s.val.cell? ⟨w.heap.size, 1, none⟩ = some (.string t) := fun s => (HIO.out _ s.ok).1.cell 1
    have q2 : ∀ s : Cl I, s.val.cell? ⟨w.heap.size, 2, none⟩ = some (.int .i64 k) := fun s => (HIO.out _ s.ok).1.cell 2
    have q3 : ∀ s : Cl I, s.val.cell? ⟨w.heap.size, 3, none⟩ = some (.int .i64 n) := fun s => (HIO.out _ s.ok).1.cell 3
    have q4 : ∀ s : Cl I, s.val.cell? ⟨w.heap.size, 4, none⟩ = some (.string r) := fun s => (HIO.out _ s.ok).1.cell 4
    have q5 : ∀ s : Cl I, s.val.cell? ⟨w.heap.size, 5, none⟩ = some (.slice A len cap) := fun s => (HIO.out _ s.ok).1.cell 5
    have heq : (P.toList == P.toList) = true := by simp
    clear hI0
    refine wp_region_cl HI0.out (by kernel_rfl) (by kernel_rfl) ?_
    repeat go_big_quiet_step ((first
      | (go_at_call 20; exact Calls.cl_of ((HP1.out _ (HIO.out _ (Cl.ok _)).2).mono fun _ _ ⟨a, b⟩ => ⟨a, HIM.out _ _ (Cl.ok _) b⟩))
      | (go_at_call 21; exact Calls.cl_of ((HP2.out _ (HIO.out _ (Cl.ok _)).2).mono fun _ _ ⟨a, b⟩ => ⟨a, HIM.out _ _ (Cl.ok _) b⟩))
      | (go_at_call 22; exact Calls.cl_of ((HR1.out _ (HIO.out _ (Cl.ok _)).2).mono fun _ _ ⟨a, b⟩ => ⟨a, HIM.out _ _ (Cl.ok _) b⟩))
      | (go_at_call 23; exact Calls.cl_of ((HR2.out _ (HIO.out _ (Cl.ok _)).2).mono fun _ _ ⟨a, b⟩ => ⟨a, HIM.out _ _ (Cl.ok _) b⟩))
      | (go_at_call 8; exact Calls.cl_of ((HLV.out _ (HIO.out _ (Cl.ok _)).2).mono fun _ _ ⟨a, b⟩ => ⟨a, HIM.out _ _ (Cl.ok _) b⟩))))
    refine wpQuiet_nil ?_
    rintro _ ⟨s, rfl⟩
    go_wp2_with fail
    go_ret
    exact ⟨by simp, (HIO.out _ s.ok).2⟩
end Go.Proofs.YtcgjpkkhebpdfaaGreatDoor

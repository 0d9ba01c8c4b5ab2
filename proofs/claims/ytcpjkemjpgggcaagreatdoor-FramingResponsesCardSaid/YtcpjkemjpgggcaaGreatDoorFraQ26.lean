/- Texts packed for one claim, 26 of 34: RfI RfJ. -/
import Derived.Test.YtcpjkemjpgggcaaGreatDoorFraQ21
import Derived.Test.YtcpjkemjpgggcaaGreatDoorFraQ16
import Derived.Test.YtcpjkemjpgggcaaGreatDoorFraQ22
import Derived.Test.YtcpjkemjpgggcaaGreatDoorFraQ25
set_option linter.unusedSimpArgs false
set_option linter.unusedVariables false
-- RfI
namespace Go.Proofs.YtcpjkemjpgggcaaGreatDoor
open Go.RowKit
theorem allB_low {a b : ByteArray} (fs : List Fd) (h : lowB a = lowB b) : allB fs a = allB fs b := by unfold allB; rw [h]
/-- What Said answers: the kind, the length, whether something is said, the error. -/
def saidF (C : Bool) (ce q : Int) (has : Bool) (le : Int) (cnt : Nat) (k : Int) : Int × Int × Bool × Int :=
  if ce ≠ 0 then (0, 0, false, ce) else if C = true ∧ (k < 1 ∨ 0 < cnt) then (0, 0, false, 14) else if le ≠ 0 then (0, 0, false, le) else if C = true then (2, 0, true, 0) else if has = true then (1, q, true, 0) else (0, 0, false, 0)
def saidR (fs : List Fd) (k : Int) : Int × Int × Bool × Int := saidF (codP fs).1 (codP fs).2 ((lenP fs).elim 0 (max · 0)) ((lenP fs).elim false (fun r => decide (0 ≤ r))) ((lenP fs).elim 14 (fun _ => 0)) (allB fs clB).length k
/-- What it is beside the program's. -/
def saidT (C : Bool) (ce : Int) (l : Option Int) (cl : List ByteArray) (k : Int) : Int × Int × Int :=
  if ce ≠ 0 then (0, 0, ce)
  else if C = true ∧ (k ≤ 0 ∨ cl ≠ []) then (0, 0, 14)
  else match l with
    | none => (0, 0, 14)
    | some n => if C = true then (2, 0, 0) else if 0 ≤ n then (1, n, 0) else (3, 0, 0)
theorem saidT_eq (C : Bool) (ce : Int) (l : Option Int) (cl : List ByteArray) (k : Int) (S : Int × Int × Int) (hS : S = saidT C ce l cl k) : saidF C ce (l.elim 0 (max · 0)) (l.elim false (fun r => decide (0 ≤ r))) (l.elim 14 (fun _ => 0)) cl.length k = (if S.1 = 3 then 0 else S.1, S.2.1, decide (S.2.2 = 0 ∧ S.1 ≠ 3), S.2.2) := by
  unfold saidT at hS
  unfold saidF
  by_cases h1 : ce = 0
  · subst h1
    rw [if_neg (by simp)] at hS ⊢
    have hc : (k < 1 ∨ 0 < cl.length) ↔ (k ≤ 0 ∨ cl ≠ []) := by
      rw [List.length_pos_iff]
      constructor
      · rintro (h | h)
        · exact Or.inl (by omega)
        · exact Or.inr h
      · rintro (h | h)
        · exact Or.inl (by omega)
        · exact Or.inr h
    by_cases h2 : C = true ∧ (k ≤ 0 ∨ cl ≠ [])
    · rw [if_pos h2] at hS
      rw [if_pos ⟨h2.1, hc.2 h2.2⟩, hS]
      rfl
    · rw [if_neg h2] at hS
      rw [if_neg (fun h => h2 ⟨h.1, hc.1 h.2⟩)]
      cases l with
      | none =>
        have hS : S = (0, 0, 14) := hS
        rw [if_pos (show (none : Option Int).elim (14 : Int) (fun _ => 0) ≠ 0 by decide), hS]
        rfl
      | some q =>
        have hS : S = if C = true then (2, 0, 0) else if 0 ≤ q then (1, q, 0) else (3, 0, 0) := hS
        rw [if_neg (show ¬ (some q : Option Int).elim (14 : Int) (fun _ => 0) ≠ 0 by simp)]
        by_cases h3 : C = true
        · rw [if_pos h3] at hS
          rw [if_pos h3, hS]
          rfl
        · rw [if_neg h3] at hS
          rw [if_neg h3]
          by_cases h4 : 0 ≤ q
          · rw [if_pos h4] at hS
            rw [if_pos (show (some q : Option Int).elim false (fun r => decide (0 ≤ r)) = true from decide_eq_true h4), hS]
            show (1, max q 0, true, (0 : Int)) = (1, q, true, 0)
            rw [show max q 0 = q by omega]
          · rw [if_neg h4] at hS
            rw [if_neg (show ¬ (some q : Option Int).elim false (fun r => decide (0 ≤ r)) = true from by simpa using h4), hS]
            rfl
  · rw [if_pos h1] at hS ⊢
    rw [hS]
    show (0, 0, false, ce) = (0, 0, decide (ce = 0 ∧ (0 : Int) ≠ 3), ce)
    rw [decide_eq_false (fun h => h1 h.1)]
theorem saidP_T (fs : List Fd) (k : Int) : saidP fs k = saidT (codP fs).1 (codP fs).2 (lenP fs) (allB fs clB) k := rfl
theorem saidR_eq (fs : List Fd) (k : Int) : saidR fs k = (if (saidP fs k).1 = 3 then 0 else (saidP fs k).1, (saidP fs k).2.1, decide ((saidP fs k).2.2 = 0 ∧ (saidP fs k).1 ≠ 3), (saidP fs k).2.2) :=
  saidT_eq _ _ _ _ _ _ (saidP_T fs k)
set_option maxRecDepth 100000 in
set_option maxHeartbeats 4000000 in
theorem rsaid_err (m t r : ByteArray) (k n : Int) (A : Option Addr) (len cap : Nat) (fs : List Fd) (w : World) (hF : Flds w (.slice A len cap) fs)
    (C : Bool) (ce q : Int) (has : Bool) (le : Int) (cnt : Nat)
    (hC : ∀ W, Flds W (.slice A len cap) fs → Calls Tryz.prog 85 #[.slice A len cap] W fun e w' => e = .returned (.tuple #[.bool C, .int .i64 ce]) ∧ Below W.heap.size W w')
    (hO : ∀ W, Flds W (.slice A len cap) fs → Calls Tryz.prog 86 #[.slice A len cap] W fun e w' => e = .returned (.tuple #[.int .i64 q, .bool has, .int .i64 le]) ∧ Below W.heap.size W w')
    (hA : ∀ W, Flds W (.slice A len cap) fs → Calls Tryz.prog 35 #[.slice A len cap, .string ⟨#[99, 111, 110, 116, 101, 110, 116, 45, 108, 101, 110, 103, 116, 104]⟩] W fun e w' => ∃ p c, e = .returned (.slice p cnt c) ∧ Below W.heap.size W w')
    (h1 : ce ≠ 0) : Calls Tryz.prog 37 #[.agg #[.string m, .string t, .int .i64 k, .int .i64 n, .string r, .slice A len cap]] w fun e w' => e = .returned (.tuple #[.agg #[.int .i64 (saidF C ce q has le cnt k).1, .int .i64 (saidF C ce q has le cnt k).2.1], .bool (saidF C ce q has le cnt k).2.2.1, .int .i64 (saidF C ce q has le cnt k).2.2.2]) ∧ Below w.heap.size w w' := by
  have HV : Hid (saidF C ce q has le cnt k = (0, 0, false, ce)) := by
    show _ = _
    unfold saidF
    rw [if_pos h1]
  have KH := Lib.hid ((Blk.new w #[.string m, .string t, .int .i64 k, .int .i64 n, .string r, .slice A len cap] 24).alloc (.cells #[.int .i64 0, .int .i64 0] 28))
  have KF0 := Blk.new (w.alloc (.cells #[.string m, .string t, .int .i64 k, .int .i64 n, .string r, .slice A len cap] 24)) #[.int .i64 0, .int .i64 0] 28
  rw [show (w.alloc (.cells #[.string m, .string t, .int .i64 k, .int .i64 n, .string r, .slice A len cap] 24)).heap.size = w.heap.size + 1 by simp] at KF0
  have KF := Lib.hid KF0
  have B := Lib.hid (((Below.refl w.heap.size w).alloc (Nat.le_refl _) (.cells #[.string m, .string t, .int .i64 k, .int .i64 n, .string r, .slice A len cap] 24)).alloc (by simp) (.cells #[.int .i64 0, .int .i64 0] 28))
  have F := Lib.hid (hF.below B.out)
  have HC := Lib.hid hC
  have HO := Lib.hid hO
  have HA := Lib.hid hA
  have h05 := KH.out.cell 5
  simp at h05
  clear hF hC hO hA KF0
  have e1 : (ce != 0) = true := by rw [bne_iff_ne]; exact h1
  have e1b : (ce == 0) = false := by rw [beq_eq_false_iff_ne]; exact h1
  clear h1
  go_enter Tryz.func37, Tryz.ntmps37
  go_wp2_with fail
  refine (HC.out _ F.out).mono ?_
  rintro e1 w1 ⟨rfl, hb⟩
  replace KH := Lib.hid (KH.out.call hb)
  replace KF := Lib.hid (KF.out.call hb)
  replace B := Lib.hid (B.out.trans (hb.mono B.out.size))
  replace F := Lib.hid (F.out.below hb)
  clear hb h05
  have h05 := KH.out.cell 5
  simp at h05
  go_wp2_with fail
  refine (HO.out _ F.out).mono ?_
  rintro e2 w2 ⟨rfl, hb⟩
  replace KH := Lib.hid (KH.out.call hb)
  replace KF := Lib.hid (KF.out.call hb)
  replace B := Lib.hid (B.out.trans (hb.mono B.out.size))
  replace F := Lib.hid (F.out.below hb)
  clear hb h05
  have h05 := KH.out.cell 5
  have h02 := KH.out.cell 2
  have a0 := KF.out.cell 0
  have a1 := KF.out.cell 1
  have f0 := KF.out.froz 0
  have f1 := KF.out.froz 1
  simp at h05 h02 a0 a1
  go_wp2_with fail
  refine bodyPost_ret (results_att Tryz.results37 _ _ _ _ rfl (run_loadVar_row _ _ _ _ _ _ _ (blk_set2 KF.out (.int .i64 0) (.int .i64 0)) Tryz.underlying28 rfl (by kernel_rfl))) rfl ?_
  rw [HV.out]
  exact ⟨rfl, (B.out.setCell (by simp) _).setCell (by simp) _⟩
set_option maxRecDepth 100000 in
set_option maxHeartbeats 4000000 in
theorem rsaid_old (m t r : ByteArray) (k n : Int) (A : Option Addr) (len cap : Nat) (fs : List Fd) (w : World) (hF : Flds w (.slice A len cap) fs)
    (C : Bool) (ce q : Int) (has : Bool) (le : Int) (cnt : Nat)
    (hC : ∀ W, Flds W (.slice A len cap) fs → Calls Tryz.prog 85 #[.slice A len cap] W fun e w' => e = .returned (.tuple #[.bool C, .int .i64 ce]) ∧ Below W.heap.size W w')
    (hO : ∀ W, Flds W (.slice A len cap) fs → Calls Tryz.prog 86 #[.slice A len cap] W fun e w' => e = .returned (.tuple #[.int .i64 q, .bool has, .int .i64 le]) ∧ Below W.heap.size W w')
    (hA : ∀ W, Flds W (.slice A len cap) fs → Calls Tryz.prog 35 #[.slice A len cap, .string ⟨#[99, 111, 110, 116, 101, 110, 116, 45, 108, 101, 110, 103, 116, 104]⟩] W fun e w' => ∃ p c, e = .returned (.slice p cnt c) ∧ Below W.heap.size W w')
    (h1 : ce = 0) (h2 : C = true) (h3 : k < 1) : Calls Tryz.prog 37 #[.agg #[.string m, .string t, .int .i64 k, .int .i64 n, .string r, .slice A len cap]] w fun e w' => e = .returned (.tuple #[.agg #[.int .i64 (saidF C ce q has le cnt k).1, .int .i64 (saidF C ce q has le cnt k).2.1], .bool (saidF C ce q has le cnt k).2.2.1, .int .i64 (saidF C ce q has le cnt k).2.2.2]) ∧ Below w.heap.size w w' := by
  have HV : Hid (saidF C ce q has le cnt k = (0, 0, false, 14)) := by
    show _ = _
    unfold saidF
    subst h1
    rw [if_neg (by simp)]
    rw [if_pos ⟨h2, Or.inl h3⟩]
  have KH := Lib.hid ((Blk.new w #[.string m, .string t, .int .i64 k, .int .i64 n, .string r, .slice A len cap] 24).alloc (.cells #[.int .i64 0, .int .i64 0] 28))
  have KF0 := Blk.new (w.alloc (.cells #[.string m, .string t, .int .i64 k, .int .i64 n, .string r, .slice A len cap] 24)) #[.int .i64 0, .int .i64 0] 28
  rw [show (w.alloc (.cells #[.string m, .string t, .int .i64 k, .int .i64 n, .string r, .slice A len cap] 24)).heap.size = w.heap.size + 1 by simp] at KF0
  have KF := Lib.hid KF0
  have B := Lib.hid (((Below.refl w.heap.size w).alloc (Nat.le_refl _) (.cells #[.string m, .string t, .int .i64 k, .int .i64 n, .string r, .slice A len cap] 24)).alloc (by simp) (.cells #[.int .i64 0, .int .i64 0] 28))
  have F := Lib.hid (hF.below B.out)
  have HC := Lib.hid hC
  have HO := Lib.hid hO
  have HA := Lib.hid hA
  have h05 := KH.out.cell 5
  simp at h05
  clear hF hC hO hA KF0
  have e3 : decide (k < 1) = true := decide_eq_true h3
  subst h1 h2
  clear h3
  go_enter Tryz.func37, Tryz.ntmps37
  go_wp2_with fail
  refine (HC.out _ F.out).mono ?_
  rintro e1 w1 ⟨rfl, hb⟩
  replace KH := Lib.hid (KH.out.call hb)
  replace KF := Lib.hid (KF.out.call hb)
  replace B := Lib.hid (B.out.trans (hb.mono B.out.size))
  replace F := Lib.hid (F.out.below hb)
  clear hb h05
  have h05 := KH.out.cell 5
  simp at h05
  go_wp2_with fail
  refine (HO.out _ F.out).mono ?_
  rintro e2 w2 ⟨rfl, hb⟩
  replace KH := Lib.hid (KH.out.call hb)
  replace KF := Lib.hid (KF.out.call hb)
  replace B := Lib.hid (B.out.trans (hb.mono B.out.size))
  replace F := Lib.hid (F.out.below hb)
  clear hb h05
  have h05 := KH.out.cell 5
  have h02 := KH.out.cell 2
  have a0 := KF.out.cell 0
  have a1 := KF.out.cell 1
  have f0 := KF.out.froz 0
  have f1 := KF.out.froz 1
  simp at h05 h02 a0 a1
  go_wp2_with fail
  refine bodyPost_ret (results_att Tryz.results37 _ _ _ _ rfl (run_loadVar_row _ _ _ _ _ _ _ (blk_set2 KF.out (.int .i64 0) (.int .i64 0)) Tryz.underlying28 rfl (by kernel_rfl))) rfl ?_
  rw [HV.out]
  exact ⟨rfl, (B.out.setCell (by simp) _).setCell (by simp) _⟩
set_option maxRecDepth 100000 in
set_option maxHeartbeats 4000000 in
theorem rsaid_both (m t r : ByteArray) (k n : Int) (A : Option Addr) (len cap : Nat) (fs : List Fd) (w : World) (hF : Flds w (.slice A len cap) fs)
    (C : Bool) (ce q : Int) (has : Bool) (le : Int) (cnt : Nat)
    (hC : ∀ W, Flds W (.slice A len cap) fs → Calls Tryz.prog 85 #[.slice A len cap] W fun e w' => e = .returned (.tuple #[.bool C, .int .i64 ce]) ∧ Below W.heap.size W w')
    (hO : ∀ W, Flds W (.slice A len cap) fs → Calls Tryz.prog 86 #[.slice A len cap] W fun e w' => e = .returned (.tuple #[.int .i64 q, .bool has, .int .i64 le]) ∧ Below W.heap.size W w')
    (hA : ∀ W, Flds W (.slice A len cap) fs → Calls Tryz.prog 35 #[.slice A len cap, .string ⟨#[99, 111, 110, 116, 101, 110, 116, 45, 108, 101, 110, 103, 116, 104]⟩] W fun e w' => ∃ p c, e = .returned (.slice p cnt c) ∧ Below W.heap.size W w')
    (h1 : ce = 0) (h2 : C = true) (h3 : ¬ k < 1) (h4 : 0 < cnt) : Calls Tryz.prog 37 #[.agg #[.string m, .string t, .int .i64 k, .int .i64 n, .string r, .slice A len cap]] w fun e w' => e = .returned (.tuple #[.agg #[.int .i64 (saidF C ce q has le cnt k).1, .int .i64 (saidF C ce q has le cnt k).2.1], .bool (saidF C ce q has le cnt k).2.2.1, .int .i64 (saidF C ce q has le cnt k).2.2.2]) ∧ Below w.heap.size w w' := by
  have HV : Hid (saidF C ce q has le cnt k = (0, 0, false, 14)) := by
    show _ = _
    unfold saidF
    subst h1
    rw [if_neg (by simp)]
    rw [if_pos ⟨h2, Or.inr h4⟩]
  have KH := Lib.hid ((Blk.new w #[.string m, .string t, .int .i64 k, .int .i64 n, .string r, .slice A len cap] 24).alloc (.cells #[.int .i64 0, .int .i64 0] 28))
  have KF0 := Blk.new (w.alloc (.cells #[.string m, .string t, .int .i64 k, .int .i64 n, .string r, .slice A len cap] 24)) #[.int .i64 0, .int .i64 0] 28
  rw [show (w.alloc (.cells #[.string m, .string t, .int .i64 k, .int .i64 n, .string r, .slice A len cap] 24)).heap.size = w.heap.size + 1 by simp] at KF0
  have KF := Lib.hid KF0
  have B := Lib.hid (((Below.refl w.heap.size w).alloc (Nat.le_refl _) (.cells #[.string m, .string t, .int .i64 k, .int .i64 n, .string r, .slice A len cap] 24)).alloc (by simp) (.cells #[.int .i64 0, .int .i64 0] 28))
  have F := Lib.hid (hF.below B.out)
  have HC := Lib.hid hC
  have HO := Lib.hid hO
  have HA := Lib.hid hA
  have h05 := KH.out.cell 5
  simp at h05
  clear hF hC hO hA KF0
  have e3 : decide (k < 1) = false := decide_eq_false h3
  have e4 : decide (0 < cnt) = true := decide_eq_true h4
  have e4i : decide ((0 : Int) < (cnt : Int)) = true := decide_eq_true (by omega)
  subst h1 h2
  clear h3 h4
  go_enter Tryz.func37, Tryz.ntmps37
  go_wp2_with fail
  refine (HC.out _ F.out).mono ?_
  rintro e1 w1 ⟨rfl, hb⟩
  replace KH := Lib.hid (KH.out.call hb)
  replace KF := Lib.hid (KF.out.call hb)
  replace B := Lib.hid (B.out.trans (hb.mono B.out.size))
  replace F := Lib.hid (F.out.below hb)
  clear hb h05
  have h05 := KH.out.cell 5
  simp at h05
  go_wp2_with fail
  refine (HO.out _ F.out).mono ?_
  rintro e2 w2 ⟨rfl, hb⟩
  replace KH := Lib.hid (KH.out.call hb)
  replace KF := Lib.hid (KF.out.call hb)
  replace B := Lib.hid (B.out.trans (hb.mono B.out.size))
  replace F := Lib.hid (F.out.below hb)
  clear hb h05
  have h05 := KH.out.cell 5
  have h02 := KH.out.cell 2
  have a0 := KF.out.cell 0
  have a1 := KF.out.cell 1
  have f0 := KF.out.froz 0
  have f1 := KF.out.froz 1
  simp at h05 h02 a0 a1
  go_wp2_with fail
  refine (HA.out _ F.out).mono ?_
  rintro e3 w3 ⟨p3, c3, rfl, hb⟩
  replace KF := Lib.hid (KF.out.call hb)
  replace B := Lib.hid (B.out.trans (hb.mono B.out.size))
  clear hb h05 h02 a0 a1 f0 f1
  have a0 := KF.out.cell 0
  have a1 := KF.out.cell 1
  have f0 := KF.out.froz 0
  have f1 := KF.out.froz 1
  simp at a0 a1
  go_wp2_with fail
  refine bodyPost_ret (results_att Tryz.results37 _ _ _ _ rfl (run_loadVar_row _ _ _ _ _ _ _ (blk_set2 KF.out (.int .i64 0) (.int .i64 0)) Tryz.underlying28 rfl (by kernel_rfl))) rfl ?_
  rw [HV.out]
  exact ⟨rfl, (B.out.setCell (by simp) _).setCell (by simp) _⟩
set_option maxRecDepth 100000 in
set_option maxHeartbeats 4000000 in
theorem rsaid_lenC (m t r : ByteArray) (k n : Int) (A : Option Addr) (len cap : Nat) (fs : List Fd) (w : World) (hF : Flds w (.slice A len cap) fs)
    (C : Bool) (ce q : Int) (has : Bool) (le : Int) (cnt : Nat)
    (hC : ∀ W, Flds W (.slice A len cap) fs → Calls Tryz.prog 85 #[.slice A len cap] W fun e w' => e = .returned (.tuple #[.bool C, .int .i64 ce]) ∧ Below W.heap.size W w')
    (hO : ∀ W, Flds W (.slice A len cap) fs → Calls Tryz.prog 86 #[.slice A len cap] W fun e w' => e = .returned (.tuple #[.int .i64 q, .bool has, .int .i64 le]) ∧ Below W.heap.size W w')
    (hA : ∀ W, Flds W (.slice A len cap) fs → Calls Tryz.prog 35 #[.slice A len cap, .string ⟨#[99, 111, 110, 116, 101, 110, 116, 45, 108, 101, 110, 103, 116, 104]⟩] W fun e w' => ∃ p c, e = .returned (.slice p cnt c) ∧ Below W.heap.size W w')
    (h1 : ce = 0) (h2 : C = true) (h3 : ¬ k < 1) (h4 : cnt = 0) (h5 : le ≠ 0) : Calls Tryz.prog 37 #[.agg #[.string m, .string t, .int .i64 k, .int .i64 n, .string r, .slice A len cap]] w fun e w' => e = .returned (.tuple #[.agg #[.int .i64 (saidF C ce q has le cnt k).1, .int .i64 (saidF C ce q has le cnt k).2.1], .bool (saidF C ce q has le cnt k).2.2.1, .int .i64 (saidF C ce q has le cnt k).2.2.2]) ∧ Below w.heap.size w w' := by
  have HV : Hid (saidF C ce q has le cnt k = (0, 0, false, le)) := by
    show _ = _
    unfold saidF
    subst h1
    rw [if_neg (by simp)]
    rw [if_neg (by rintro ⟨_, h | h⟩; exact h3 h; omega)]
    rw [if_pos h5]
  have KH := Lib.hid ((Blk.new w #[.string m, .string t, .int .i64 k, .int .i64 n, .string r, .slice A len cap] 24).alloc (.cells #[.int .i64 0, .int .i64 0] 28))
  have KF0 := Blk.new (w.alloc (.cells #[.string m, .string t, .int .i64 k, .int .i64 n, .string r, .slice A len cap] 24)) #[.int .i64 0, .int .i64 0] 28
  rw [show (w.alloc (.cells #[.string m, .string t, .int .i64 k, .int .i64 n, .string r, .slice A len cap] 24)).heap.size = w.heap.size + 1 by simp] at KF0
  have KF := Lib.hid KF0
  have B := Lib.hid (((Below.refl w.heap.size w).alloc (Nat.le_refl _) (.cells #[.string m, .string t, .int .i64 k, .int .i64 n, .string r, .slice A len cap] 24)).alloc (by simp) (.cells #[.int .i64 0, .int .i64 0] 28))
  have F := Lib.hid (hF.below B.out)
  have HC := Lib.hid hC
  have HO := Lib.hid hO
  have HA := Lib.hid hA
  have h05 := KH.out.cell 5
  simp at h05
  clear hF hC hO hA KF0
  have e3 : decide (k < 1) = false := decide_eq_false h3
  have e4 : decide (0 < cnt) = false := decide_eq_false (by omega)
  have e4i : decide ((0 : Int) < (cnt : Int)) = false := decide_eq_false (by omega)
  have e5 : (le != 0) = true := by rw [bne_iff_ne]; exact h5
  have e5b : (le == 0) = false := by rw [beq_eq_false_iff_ne]; exact h5
  subst h1 h2
  clear h3 h4 h5
  go_enter Tryz.func37, Tryz.ntmps37
  go_wp2_with fail
  refine (HC.out _ F.out).mono ?_
  rintro e1 w1 ⟨rfl, hb⟩
  replace KH := Lib.hid (KH.out.call hb)
  replace KF := Lib.hid (KF.out.call hb)
  replace B := Lib.hid (B.out.trans (hb.mono B.out.size))
  replace F := Lib.hid (F.out.below hb)
  clear hb h05
  have h05 := KH.out.cell 5
  simp at h05
  go_wp2_with fail
  refine (HO.out _ F.out).mono ?_
  rintro e2 w2 ⟨rfl, hb⟩
  replace KH := Lib.hid (KH.out.call hb)
  replace KF := Lib.hid (KF.out.call hb)
  replace B := Lib.hid (B.out.trans (hb.mono B.out.size))
  replace F := Lib.hid (F.out.below hb)
  clear hb h05
  have h05 := KH.out.cell 5
  have h02 := KH.out.cell 2
  have a0 := KF.out.cell 0
  have a1 := KF.out.cell 1
  have f0 := KF.out.froz 0
  have f1 := KF.out.froz 1
  simp at h05 h02 a0 a1
  go_wp2_with fail
  refine (HA.out _ F.out).mono ?_
  rintro e3 w3 ⟨p3, c3, rfl, hb⟩
  replace KF := Lib.hid (KF.out.call hb)
  replace B := Lib.hid (B.out.trans (hb.mono B.out.size))
  clear hb h05 h02 a0 a1 f0 f1
  have a0 := KF.out.cell 0
  have a1 := KF.out.cell 1
  have f0 := KF.out.froz 0
  have f1 := KF.out.froz 1
  simp at a0 a1
  go_wp2_with fail
  refine bodyPost_ret (results_att Tryz.results37 _ _ _ _ rfl (run_loadVar_row _ _ _ _ _ _ _ (blk_set2 KF.out (.int .i64 0) (.int .i64 0)) Tryz.underlying28 rfl (by kernel_rfl))) rfl ?_
  rw [HV.out]
  exact ⟨rfl, (B.out.setCell (by simp) _).setCell (by simp) _⟩
set_option maxRecDepth 100000 in
set_option maxHeartbeats 4000000 in
theorem rsaid_chk (m t r : ByteArray) (k n : Int) (A : Option Addr) (len cap : Nat) (fs : List Fd) (w : World) (hF : Flds w (.slice A len cap) fs)
    (C : Bool) (ce q : Int) (has : Bool) (le : Int) (cnt : Nat)
    (hC : ∀ W, Flds W (.slice A len cap) fs → Calls Tryz.prog 85 #[.slice A len cap] W fun e w' => e = .returned (.tuple #[.bool C, .int .i64 ce]) ∧ Below W.heap.size W w')
    (hO : ∀ W, Flds W (.slice A len cap) fs → Calls Tryz.prog 86 #[.slice A len cap] W fun e w' => e = .returned (.tuple #[.int .i64 q, .bool has, .int .i64 le]) ∧ Below W.heap.size W w')
    (hA : ∀ W, Flds W (.slice A len cap) fs → Calls Tryz.prog 35 #[.slice A len cap, .string ⟨#[99, 111, 110, 116, 101, 110, 116, 45, 108, 101, 110, 103, 116, 104]⟩] W fun e w' => ∃ p c, e = .returned (.slice p cnt c) ∧ Below W.heap.size W w')
    (h1 : ce = 0) (h2 : C = true) (h3 : ¬ k < 1) (h4 : cnt = 0) (h5 : le = 0) : Calls Tryz.prog 37 #[.agg #[.string m, .string t, .int .i64 k, .int .i64 n, .string r, .slice A len cap]] w fun e w' => e = .returned (.tuple #[.agg #[.int .i64 (saidF C ce q has le cnt k).1, .int .i64 (saidF C ce q has le cnt k).2.1], .bool (saidF C ce q has le cnt k).2.2.1, .int .i64 (saidF C ce q has le cnt k).2.2.2]) ∧ Below w.heap.size w w' := by
  have HV : Hid (saidF C ce q has le cnt k = (2, 0, true, 0)) := by
    show _ = _
    unfold saidF
    subst h1
    rw [if_neg (by simp)]
    rw [if_neg (by rintro ⟨_, h | h⟩; exact h3 h; omega)]
    rw [if_neg (by simpa using h5), if_pos h2]
  have KH := Lib.hid ((Blk.new w #[.string m, .string t, .int .i64 k, .int .i64 n, .string r, .slice A len cap] 24).alloc (.cells #[.int .i64 0, .int .i64 0] 28))
  have KF0 := Blk.new (w.alloc (.cells #[.string m, .string t, .int .i64 k, .int .i64 n, .string r, .slice A len cap] 24)) #[.int .i64 0, .int .i64 0] 28
  rw [show (w.alloc (.cells #[.string m, .string t, .int .i64 k, .int .i64 n, .string r, .slice A len cap] 24)).heap.size = w.heap.size + 1 by simp] at KF0
  have KF := Lib.hid KF0
  have B := Lib.hid (((Below.refl w.heap.size w).alloc (Nat.le_refl _) (.cells #[.string m, .string t, .int .i64 k, .int .i64 n, .string r, .slice A len cap] 24)).alloc (by simp) (.cells #[.int .i64 0, .int .i64 0] 28))
  have F := Lib.hid (hF.below B.out)
  have HC := Lib.hid hC
  have HO := Lib.hid hO
  have HA := Lib.hid hA
  have h05 := KH.out.cell 5
  simp at h05
  clear hF hC hO hA KF0
  have e3 : decide (k < 1) = false := decide_eq_false h3
  have e4 : decide (0 < cnt) = false := decide_eq_false (by omega)
  have e4i : decide ((0 : Int) < (cnt : Int)) = false := decide_eq_false (by omega)
  subst h1 h2 h5
  clear h3 h4
  go_enter Tryz.func37, Tryz.ntmps37
  go_wp2_with fail
  refine (HC.out _ F.out).mono ?_
  rintro e1 w1 ⟨rfl, hb⟩
  replace KH := Lib.hid (KH.out.call hb)
  replace KF := Lib.hid (KF.out.call hb)
  replace B := Lib.hid (B.out.trans (hb.mono B.out.size))
  replace F := Lib.hid (F.out.below hb)
  clear hb h05
  have h05 := KH.out.cell 5
  simp at h05
  go_wp2_with fail
  refine (HO.out _ F.out).mono ?_
  rintro e2 w2 ⟨rfl, hb⟩
  replace KH := Lib.hid (KH.out.call hb)
  replace KF := Lib.hid (KF.out.call hb)
  replace B := Lib.hid (B.out.trans (hb.mono B.out.size))
  replace F := Lib.hid (F.out.below hb)
  clear hb h05
  have h05 := KH.out.cell 5
  have h02 := KH.out.cell 2
  have a0 := KF.out.cell 0
  have a1 := KF.out.cell 1
  have f0 := KF.out.froz 0
  have f1 := KF.out.froz 1
  simp at h05 h02 a0 a1
  go_wp2_with fail
  refine (HA.out _ F.out).mono ?_
  rintro e3 w3 ⟨p3, c3, rfl, hb⟩
  replace KF := Lib.hid (KF.out.call hb)
  replace B := Lib.hid (B.out.trans (hb.mono B.out.size))
  clear hb h05 h02 a0 a1 f0 f1
  have a0 := KF.out.cell 0
  have a1 := KF.out.cell 1
  have f0 := KF.out.froz 0
  have f1 := KF.out.froz 1
  simp at a0 a1
  go_wp2_with fail
  refine bodyPost_ret (results_att Tryz.results37 _ _ _ _ rfl (run_loadVar_row _ _ _ _ _ _ _ (blk_set2 KF.out (.int .i64 2) (.int .i64 0)) Tryz.underlying28 rfl (by kernel_rfl))) rfl ?_
  rw [HV.out]
  exact ⟨rfl, (B.out.setCell (by simp) _).setCell (by simp) _⟩
set_option maxRecDepth 100000 in
set_option maxHeartbeats 4000000 in
theorem rsaid_len (m t r : ByteArray) (k n : Int) (A : Option Addr) (len cap : Nat) (fs : List Fd) (w : World) (hF : Flds w (.slice A len cap) fs)
    (C : Bool) (ce q : Int) (has : Bool) (le : Int) (cnt : Nat)
    (hC : ∀ W, Flds W (.slice A len cap) fs → Calls Tryz.prog 85 #[.slice A len cap] W fun e w' => e = .returned (.tuple #[.bool C, .int .i64 ce]) ∧ Below W.heap.size W w')
    (hO : ∀ W, Flds W (.slice A len cap) fs → Calls Tryz.prog 86 #[.slice A len cap] W fun e w' => e = .returned (.tuple #[.int .i64 q, .bool has, .int .i64 le]) ∧ Below W.heap.size W w')
    (hA : ∀ W, Flds W (.slice A len cap) fs → Calls Tryz.prog 35 #[.slice A len cap, .string ⟨#[99, 111, 110, 116, 101, 110, 116, 45, 108, 101, 110, 103, 116, 104]⟩] W fun e w' => ∃ p c, e = .returned (.slice p cnt c) ∧ Below W.heap.size W w')
    (h1 : ce = 0) (h2 : C = false) (h5 : le ≠ 0) : Calls Tryz.prog 37 #[.agg #[.string m, .string t, .int .i64 k, .int .i64 n, .string r, .slice A len cap]] w fun e w' => e = .returned (.tuple #[.agg #[.int .i64 (saidF C ce q has le cnt k).1, .int .i64 (saidF C ce q has le cnt k).2.1], .bool (saidF C ce q has le cnt k).2.2.1, .int .i64 (saidF C ce q has le cnt k).2.2.2]) ∧ Below w.heap.size w w' := by
  have HV : Hid (saidF C ce q has le cnt k = (0, 0, false, le)) := by
    show _ = _
    unfold saidF
    subst h1
    rw [if_neg (by simp)]
    rw [if_neg (by rintro ⟨h, _⟩; rw [h2] at h; cases h)]
    rw [if_pos h5]
  have KH := Lib.hid ((Blk.new w #[.string m, .string t, .int .i64 k, .int .i64 n, .string r, .slice A len cap] 24).alloc (.cells #[.int .i64 0, .int .i64 0] 28))
  have KF0 := Blk.new (w.alloc (.cells #[.string m, .string t, .int .i64 k, .int .i64 n, .string r, .slice A len cap] 24)) #[.int .i64 0, .int .i64 0] 28
  rw [show (w.alloc (.cells #[.string m, .string t, .int .i64 k, .int .i64 n, .string r, .slice A len cap] 24)).heap.size = w.heap.size + 1 by simp] at KF0
  have KF := Lib.hid KF0
  have B := Lib.hid (((Below.refl w.heap.size w).alloc (Nat.le_refl _) (.cells #[.string m, .string t, .int .i64 k, .int .i64 n, .string r, .slice A len cap] 24)).alloc (by simp) (.cells #[.int .i64 0, .int .i64 0] 28))
  have F := Lib.hid (hF.below B.out)
  have HC := Lib.hid hC
  have HO := Lib.hid hO
  have HA := Lib.hid hA
  have h05 := KH.out.cell 5
  simp at h05
  clear hF hC hO hA KF0
  have e5 : (le != 0) = true := by rw [bne_iff_ne]; exact h5
  have e5b : (le == 0) = false := by rw [beq_eq_false_iff_ne]; exact h5
  subst h1 h2
  clear h5
  go_enter Tryz.func37, Tryz.ntmps37
  go_wp2_with fail
  refine (HC.out _ F.out).mono ?_
  rintro e1 w1 ⟨rfl, hb⟩
  replace KH := Lib.hid (KH.out.call hb)
  replace KF := Lib.hid (KF.out.call hb)
  replace B := Lib.hid (B.out.trans (hb.mono B.out.size))
  replace F := Lib.hid (F.out.below hb)
  clear hb h05
  have h05 := KH.out.cell 5
  simp at h05
  go_wp2_with fail
  refine (HO.out _ F.out).mono ?_
  rintro e2 w2 ⟨rfl, hb⟩
  replace KH := Lib.hid (KH.out.call hb)
  replace KF := Lib.hid (KF.out.call hb)
  replace B := Lib.hid (B.out.trans (hb.mono B.out.size))
  replace F := Lib.hid (F.out.below hb)
  clear hb h05
  have h05 := KH.out.cell 5
  have h02 := KH.out.cell 2
  have a0 := KF.out.cell 0
  have a1 := KF.out.cell 1
  have f0 := KF.out.froz 0
  have f1 := KF.out.froz 1
  simp at h05 h02 a0 a1
  go_wp2_with fail
  refine bodyPost_ret (results_att Tryz.results37 _ _ _ _ rfl (run_loadVar_row _ _ _ _ _ _ _ (blk_set2 KF.out (.int .i64 0) (.int .i64 0)) Tryz.underlying28 rfl (by kernel_rfl))) rfl ?_
  rw [HV.out]
  exact ⟨rfl, (B.out.setCell (by simp) _).setCell (by simp) _⟩
set_option maxRecDepth 100000 in
set_option maxHeartbeats 4000000 in
theorem rsaid_siz (m t r : ByteArray) (k n : Int) (A : Option Addr) (len cap : Nat) (fs : List Fd) (w : World) (hF : Flds w (.slice A len cap) fs)
    (C : Bool) (ce q : Int) (has : Bool) (le : Int) (cnt : Nat)
    (hC : ∀ W, Flds W (.slice A len cap) fs → Calls Tryz.prog 85 #[.slice A len cap] W fun e w' => e = .returned (.tuple #[.bool C, .int .i64 ce]) ∧ Below W.heap.size W w')
    (hO : ∀ W, Flds W (.slice A len cap) fs → Calls Tryz.prog 86 #[.slice A len cap] W fun e w' => e = .returned (.tuple #[.int .i64 q, .bool has, .int .i64 le]) ∧ Below W.heap.size W w')
    (hA : ∀ W, Flds W (.slice A len cap) fs → Calls Tryz.prog 35 #[.slice A len cap, .string ⟨#[99, 111, 110, 116, 101, 110, 116, 45, 108, 101, 110, 103, 116, 104]⟩] W fun e w' => ∃ p c, e = .returned (.slice p cnt c) ∧ Below W.heap.size W w')
    (h1 : ce = 0) (h2 : C = false) (h5 : le = 0) (h6 : has = true) : Calls Tryz.prog 37 #[.agg #[.string m, .string t, .int .i64 k, .int .i64 n, .string r, .slice A len cap]] w fun e w' => e = .returned (.tuple #[.agg #[.int .i64 (saidF C ce q has le cnt k).1, .int .i64 (saidF C ce q has le cnt k).2.1], .bool (saidF C ce q has le cnt k).2.2.1, .int .i64 (saidF C ce q has le cnt k).2.2.2]) ∧ Below w.heap.size w w' := by
  have HV : Hid (saidF C ce q has le cnt k = (1, q, true, 0)) := by
    show _ = _
    unfold saidF
    subst h1
    rw [if_neg (by simp)]
    rw [if_neg (by rintro ⟨h, _⟩; rw [h2] at h; cases h)]
    rw [if_neg (by simpa using h5), if_neg (by rw [h2]; decide), if_pos h6]
  have KH := Lib.hid ((Blk.new w #[.string m, .string t, .int .i64 k, .int .i64 n, .string r, .slice A len cap] 24).alloc (.cells #[.int .i64 0, .int .i64 0] 28))
  have KF0 := Blk.new (w.alloc (.cells #[.string m, .string t, .int .i64 k, .int .i64 n, .string r, .slice A len cap] 24)) #[.int .i64 0, .int .i64 0] 28
  rw [show (w.alloc (.cells #[.string m, .string t, .int .i64 k, .int .i64 n, .string r, .slice A len cap] 24)).heap.size = w.heap.size + 1 by simp] at KF0
  have KF := Lib.hid KF0
  have B := Lib.hid (((Below.refl w.heap.size w).alloc (Nat.le_refl _) (.cells #[.string m, .string t, .int .i64 k, .int .i64 n, .string r, .slice A len cap] 24)).alloc (by simp) (.cells #[.int .i64 0, .int .i64 0] 28))
  have F := Lib.hid (hF.below B.out)
  have HC := Lib.hid hC
  have HO := Lib.hid hO
  have HA := Lib.hid hA
  have h05 := KH.out.cell 5
  simp at h05
  clear hF hC hO hA KF0
  subst h1 h2 h5 h6
  go_enter Tryz.func37, Tryz.ntmps37
  go_wp2_with fail
  refine (HC.out _ F.out).mono ?_
  rintro e1 w1 ⟨rfl, hb⟩
  replace KH := Lib.hid (KH.out.call hb)
  replace KF := Lib.hid (KF.out.call hb)
  replace B := Lib.hid (B.out.trans (hb.mono B.out.size))
  replace F := Lib.hid (F.out.below hb)
  clear hb h05
  have h05 := KH.out.cell 5
  simp at h05
  go_wp2_with fail
  refine (HO.out _ F.out).mono ?_
  rintro e2 w2 ⟨rfl, hb⟩
  replace KH := Lib.hid (KH.out.call hb)
  replace KF := Lib.hid (KF.out.call hb)
  replace B := Lib.hid (B.out.trans (hb.mono B.out.size))
  replace F := Lib.hid (F.out.below hb)
  clear hb h05
  have h05 := KH.out.cell 5
  have h02 := KH.out.cell 2
  have a0 := KF.out.cell 0
  have a1 := KF.out.cell 1
  have f0 := KF.out.froz 0
  have f1 := KF.out.froz 1
  simp at h05 h02 a0 a1
  go_wp2_with fail
  refine bodyPost_ret (results_att Tryz.results37 _ _ _ _ rfl (run_loadVar_row _ _ _ _ _ _ _ (blk_set2 KF.out (.int .i64 1) (.int .i64 q)) Tryz.underlying28 rfl (by kernel_rfl))) rfl ?_
  rw [HV.out]
  exact ⟨rfl, (B.out.setCell (by simp) _).setCell (by simp) _⟩
set_option maxRecDepth 100000 in
set_option maxHeartbeats 4000000 in
theorem rsaid_non (m t r : ByteArray) (k n : Int) (A : Option Addr) (len cap : Nat) (fs : List Fd) (w : World) (hF : Flds w (.slice A len cap) fs)
    (C : Bool) (ce q : Int) (has : Bool) (le : Int) (cnt : Nat)
    (hC : ∀ W, Flds W (.slice A len cap) fs → Calls Tryz.prog 85 #[.slice A len cap] W fun e w' => e = .returned (.tuple #[.bool C, .int .i64 ce]) ∧ Below W.heap.size W w')
    (hO : ∀ W, Flds W (.slice A len cap) fs → Calls Tryz.prog 86 #[.slice A len cap] W fun e w' => e = .returned (.tuple #[.int .i64 q, .bool has, .int .i64 le]) ∧ Below W.heap.size W w')
    (hA : ∀ W, Flds W (.slice A len cap) fs → Calls Tryz.prog 35 #[.slice A len cap, .string ⟨#[99, 111, 110, 116, 101, 110, 116, 45, 108, 101, 110, 103, 116, 104]⟩] W fun e w' => ∃ p c, e = .returned (.slice p cnt c) ∧ Below W.heap.size W w')
    (h1 : ce = 0) (h2 : C = false) (h5 : le = 0) (h6 : has = false) : Calls Tryz.prog 37 #[.agg #[.string m, .string t, .int .i64 k, .int .i64 n, .string r, .slice A len cap]] w fun e w' => e = .returned (.tuple #[.agg #[.int .i64 (saidF C ce q has le cnt k).1, .int .i64 (saidF C ce q has le cnt k).2.1], .bool (saidF C ce q has le cnt k).2.2.1, .int .i64 (saidF C ce q has le cnt k).2.2.2]) ∧ Below w.heap.size w w' := by
  have HV : Hid (saidF C ce q has le cnt k = (0, 0, false, 0)) := by
    show _ = _
    unfold saidF
    subst h1
    rw [if_neg (by simp)]
    rw [if_neg (by rintro ⟨h, _⟩; rw [h2] at h; cases h)]
    rw [if_neg (by simpa using h5), if_neg (by rw [h2]; decide), if_neg (by rw [h6]; decide)]
  have KH := Lib.hid ((Blk.new w #[.string m, .string t, .int .i64 k, .int .i64 n, .string r, .slice A len cap] 24).alloc (.cells #[.int .i64 0, .int .i64 0] 28))
  have KF0 := Blk.new (w.alloc (.cells #[.string m, .string t, .int .i64 k, .int .i64 n, .string r, .slice A len cap] 24)) #[.int .i64 0, .int .i64 0] 28
  rw [show (w.alloc (.cells #[.string m, .string t, .int .i64 k, .int .i64 n, .string r, .slice A len cap] 24)).heap.size = w.heap.size + 1 by simp] at KF0
  have KF := Lib.hid KF0
  have B := Lib.hid (((Below.refl w.heap.size w).alloc (Nat.le_refl _) (.cells #[.string m, .string t, .int .i64 k, .int .i64 n, .string r, .slice A len cap] 24)).alloc (by simp) (.cells #[.int .i64 0, .int .i64 0] 28))
  have F := Lib.hid (hF.below B.out)
  have HC := Lib.hid hC
  have HO := Lib.hid hO
  have HA := Lib.hid hA
  have h05 := KH.out.cell 5
  simp at h05
  clear hF hC hO hA KF0
  subst h1 h2 h5 h6
  go_enter Tryz.func37, Tryz.ntmps37
  go_wp2_with fail
  refine (HC.out _ F.out).mono ?_
  rintro e1 w1 ⟨rfl, hb⟩
  replace KH := Lib.hid (KH.out.call hb)
  replace KF := Lib.hid (KF.out.call hb)
  replace B := Lib.hid (B.out.trans (hb.mono B.out.size))
  replace F := Lib.hid (F.out.below hb)
  clear hb h05
  have h05 := KH.out.cell 5
  simp at h05
  go_wp2_with fail
  refine (HO.out _ F.out).mono ?_
  rintro e2 w2 ⟨rfl, hb⟩
  replace KH := Lib.hid (KH.out.call hb)
  replace KF := Lib.hid (KF.out.call hb)
  replace B := Lib.hid (B.out.trans (hb.mono B.out.size))
  replace F := Lib.hid (F.out.below hb)
  clear hb h05
  have h05 := KH.out.cell 5
  have h02 := KH.out.cell 2
  have a0 := KF.out.cell 0
  have a1 := KF.out.cell 1
  have f0 := KF.out.froz 0
  have f1 := KF.out.froz 1
  simp at h05 h02 a0 a1
  go_wp2_with fail
  refine bodyPost_ret (results_att Tryz.results37 _ _ _ _ rfl (run_loadVar_row _ _ _ _ _ _ _ (blk_set2 KF.out (.int .i64 0) (.int .i64 0)) Tryz.underlying28 rfl (by kernel_rfl))) rfl ?_
  rw [HV.out]
  exact ⟨rfl, (B.out.setCell (by simp) _).setCell (by simp) _⟩
theorem rsaid_core (m t r : ByteArray) (k n : Int) (A : Option Addr) (len cap : Nat) (fs : List Fd) (w : World) (hF : Flds w (.slice A len cap) fs)
    (C : Bool) (ce q : Int) (has : Bool) (le : Int) (cnt : Nat)
    (hC : ∀ W, Flds W (.slice A len cap) fs → Calls Tryz.prog 85 #[.slice A len cap] W fun e w' => e = .returned (.tuple #[.bool C, .int .i64 ce]) ∧ Below W.heap.size W w')
    (hO : ∀ W, Flds W (.slice A len cap) fs → Calls Tryz.prog 86 #[.slice A len cap] W fun e w' => e = .returned (.tuple #[.int .i64 q, .bool has, .int .i64 le]) ∧ Below W.heap.size W w')
    (hA : ∀ W, Flds W (.slice A len cap) fs → Calls Tryz.prog 35 #[.slice A len cap, .string ⟨#[99, 111, 110, 116, 101, 110, 116, 45, 108, 101, 110, 103, 116, 104]⟩] W fun e w' => ∃ p c, e = .returned (.slice p cnt c) ∧ Below W.heap.size W w') :
    Calls Tryz.prog 37 #[.agg #[.string m, .string t, .int .i64 k, .int .i64 n, .string r, .slice A len cap]] w fun e w' => e = .returned (.tuple #[.agg #[.int .i64 (saidF C ce q has le cnt k).1, .int .i64 (saidF C ce q has le cnt k).2.1], .bool (saidF C ce q has le cnt k).2.2.1, .int .i64 (saidF C ce q has le cnt k).2.2.2]) ∧ Below w.heap.size w w' := by
  by_cases h1 : ce = 0
  · cases h2 : C with
    | true =>
      by_cases h3 : k < 1
      · rw [h2] at hC; exact rsaid_old m t r k n A len cap fs w hF true ce q has le cnt hC hO hA h1 rfl h3
      · rcases Nat.eq_zero_or_pos cnt with h4 | h4
        · by_cases h5 : le = 0
          · rw [h2] at hC; exact rsaid_chk m t r k n A len cap fs w hF true ce q has le cnt hC hO hA h1 rfl h3 h4 h5
          · rw [h2] at hC; exact rsaid_lenC m t r k n A len cap fs w hF true ce q has le cnt hC hO hA h1 rfl h3 h4 h5
        · rw [h2] at hC; exact rsaid_both m t r k n A len cap fs w hF true ce q has le cnt hC hO hA h1 rfl h3 h4
    | false =>
      rw [h2] at hC
      by_cases h5 : le = 0
      · cases h6 : has with
        | true => rw [h6] at hO; exact rsaid_siz m t r k n A len cap fs w hF false ce q true le cnt hC hO hA h1 rfl h5 rfl
        | false => rw [h6] at hO; exact rsaid_non m t r k n A len cap fs w hF false ce q false le cnt hC hO hA h1 rfl h5 rfl
      · exact rsaid_len m t r k n A len cap fs w hF false ce q has le cnt hC hO hA h1 rfl h5
  · exact rsaid_err m t r k n A len cap fs w hF C ce q has le cnt hC hO hA h1
/-- The bounds under which the reference's framing is walked. -/
structure FdsR (fs : List Fd) : Prop where
  len : fs.length ≤ 100000
  nam : ∀ g ∈ fs, g.1.size ≤ 1000000
  val : ∀ g ∈ fs, g.2.size ≤ 900000
  tej : (joinL (allB fs teB)).size ≤ 900000
  cap : capN (allB fs clB) ≤ 900000
theorem rsaid_any (m t r : ByteArray) (k n : Int) (f : Value) (fs : List Fd) (w : World) (hF : Flds w f fs) (ok : FdsR fs) :
    Calls Tryz.prog 37 #[.agg #[.string m, .string t, .int .i64 k, .int .i64 n, .string r, f]] w fun e w' => e = .returned (.tuple #[.agg #[.int .i64 (saidR fs k).1, .int .i64 (saidR fs k).2.1], .bool (saidR fs k).2.2.1, .int .i64 (saidR fs k).2.2.2]) ∧ Below w.heap.size w w' := by
  obtain ⟨p, c, rfl, hc⟩ := id hF
  refine rsaid_core m t r k n p _ c fs w hF _ _ _ _ _ _ (fun W hW => rchunked_any fs _ W hW ok.len ok.nam (fun g hg => by have := ok.val g hg; omega) ok.tej) (fun W hW => rlenof_any fs _ W hW (by have := ok.len; omega) ok.nam ok.val ok.cap) (fun W hW => ?_)
  refine (rall_any fs _ _ W hW (by have := ok.len; omega) ok.nam (by decide)).mono ?_
  rintro e w' ⟨v, rfl, ho, hb⟩
  obtain ⟨p', c', rfl⟩ := OwnS.shape ho
  rw [allB_low (b := clB) fs (by decide +kernel)]
  exact ⟨_, _, rfl, hb⟩
end Go.Proofs.YtcpjkemjpgggcaaGreatDoor
-- RfJ
namespace Go.Proofs.YtcpjkemjpgggcaaGreatDoor
open Go.RowKit
theorem saidT_err {C : Bool} {ce : Int} {l : Option Int} {cl : List ByteArray} {k : Int} : (saidT C ce l cl k).2.2 ≠ 0 → saidT C ce l cl k = (0, 0, (saidT C ce l cl k).2.2) := by
  unfold saidT
  split
  · intro _; rfl
  split
  · intro _; rfl
  split
  · intro _; rfl
  split
  · intro h; exact absurd rfl h
  split
  · intro h; exact absurd rfl h
  · intro h; exact absurd rfl h
theorem saidT_three {C : Bool} {ce : Int} {l : Option Int} {cl : List ByteArray} {k : Int} : (saidT C ce l cl k).1 = 3 → saidT C ce l cl k = (3, 0, 0) := by
  unfold saidT
  split
  · intro h; cases h
  split
  · intro h; cases h
  split
  · intro h; cases h
  split
  · intro h; cases h
  split
  · intro h; cases h
  · intro _; rfl
theorem saidP_err {fs : List Fd} {k : Int} (h : (saidP fs k).2.2 ≠ 0) : saidP fs k = (0, 0, (saidP fs k).2.2) := by
  rw [saidP_T] at h ⊢; exact saidT_err h
theorem saidP_three {fs : List Fd} {k : Int} (h : (saidP fs k).1 = 3) : saidP fs k = (3, 0, 0) := by
  rw [saidP_T] at h ⊢; exact saidT_three h
theorem req_said {fs : List Fd} {k : Int} (h : hostedP fs k = true) : reqP fs k = ((saidR fs k).1, (saidR fs k).2.1, (saidR fs k).2.2.2) := by
  unfold reqP
  rw [if_neg (by rw [h]; decide), saidR_eq]
  by_cases h3 : (saidP fs k).1 = 3
  · rw [saidP_three h3]; rfl
  · rw [if_neg h3]
    show saidP fs k = (if (saidP fs k).1 = 3 then 0 else (saidP fs k).1, (saidP fs k).2.1, (saidP fs k).2.2)
    rw [if_neg h3]
theorem resp_said (fs : List Fd) (k status : Int) (method : ByteArray) : respP fs k status method = if (saidR fs k).2.2.2 ≠ 0 ∨ bodilessP status method = true then (0, 0, (saidR fs k).2.2.2) else if (saidR fs k).2.2.1 = false then (3, 0, (saidR fs k).2.2.2) else ((saidR fs k).1, (saidR fs k).2.1, (saidR fs k).2.2.2) := by
  have e : (saidR fs k).2.2.2 = (saidP fs k).2.2 := by rw [saidR_eq]
  rw [e]
  unfold respP
  by_cases hb : bodilessP status method = true
  · rw [if_pos hb, if_pos (Or.inr hb)]
  · rw [if_neg hb]
    by_cases h0 : (saidP fs k).2.2 = 0
    · rw [if_neg (by rintro (h | h); exact h h0; exact hb h)]
      rw [saidR_eq]
      by_cases h3 : (saidP fs k).1 = 3
      · rw [if_pos (show decide ((saidP fs k).2.2 = 0 ∧ (saidP fs k).1 ≠ 3) = false from decide_eq_false (fun h => h.2 h3)), saidP_three h3]
      · rw [if_neg (show ¬ decide ((saidP fs k).2.2 = 0 ∧ (saidP fs k).1 ≠ 3) = false by rw [decide_eq_true (show (saidP fs k).2.2 = 0 ∧ (saidP fs k).1 ≠ 3 from ⟨h0, h3⟩)]; decide)]
        show saidP fs k = (if (saidP fs k).1 = 3 then 0 else (saidP fs k).1, (saidP fs k).2.1, (saidP fs k).2.2)
        rw [if_neg h3]
    · rw [if_pos (Or.inl h0)]
      exact saidP_err h0
set_option maxRecDepth 100000 in
set_option maxHeartbeats 1000000 in
theorem rbodiless_any (status : Int) (method : ByteArray) (w : World) : Calls Tryz.prog 14 #[.int .i64 status, .string method] w fun e w' => e = .returned (.bool (bodilessP status method)) ∧ w = w' := by
  have hd : decide (100 ≤ status ∧ status ≤ 199) = (decide (100 ≤ status) && decide (status < 200)) := by
    rw [Bool.decide_and]
    congr 1
    exact decide_eq_decide.2 (by omega)
  have d4 : (status == 204) = decide (status = 204) := rfl
  have d5 : (status == 304) = decide (status = 304) := rfl
  obtain ⟨b2, hb2⟩ : ∃ b, b = decide (100 ≤ status) := ⟨_, rfl⟩
  obtain ⟨b3, hb3⟩ : ∃ b, b = decide (status < 200) := ⟨_, rfl⟩
  obtain ⟨b4, hb4⟩ : ∃ b, b = decide (status = 204) := ⟨_, rfl⟩
  obtain ⟨b5, hb5⟩ : ∃ b, b = decide (status = 304) := ⟨_, rfl⟩
  obtain ⟨b1, hb1⟩ : ∃ b, b = decide (method = ⟨#[72, 69, 65, 68]⟩) := ⟨_, rfl⟩
  have HV : Hid (bodilessP status method = (b1 || ((b2 && b3) || (b4 || b5)))) := by
    show _ = _
    unfold bodilessP
    rw [hd, hb1, hb2, hb3, hb4, hb5]
  rw [← hb4] at d4
  rw [← hb5] at d5
  have d2 : decide (100 ≤ status) = b2 := hb2.symm
  have d3 : decide (status < 200) = b3 := hb3.symm
  clear hb2 hb3 hb4 hb5 hd
  by_cases hm : method = ⟨#[72, 69, 65, 68]⟩
  · rw [decide_eq_true hm] at hb1
    subst hb1
    subst hm
    go_enter Tryz.func14, Tryz.ntmps14
    go_wp2_with fail
    go_ret
    rw [HV.out]
    exact ⟨rfl, rfl⟩
  · rw [decide_eq_false hm] at hb1
    subst hb1
    have hx : ¬ (method.toList = [72, 69, 65, 68]) := by
      intro h
      rw [ByteArray.toList_eq] at h
      exact hm (ext_list h)
    have hy : (method.toList == [72, 69, 65, 68]) = false := by rw [beq_eq_false_iff_ne]; exact hx
    clear hm
    cases b2 <;> cases b3 <;> cases b4
    all_goals
      go_enter Tryz.func14, Tryz.ntmps14
      go_wp2_with fail
      go_ret
      rw [HV.out]
      exact ⟨rfl, rfl⟩
set_option maxRecDepth 100000 in
set_option maxHeartbeats 4000000 in
theorem rresp_err (m t r : ByteArray) (k n : Int) (f : Value) (fs : List Fd) (method : ByteArray) (w : World) (hF : Flds w f fs) (ok : FdsR fs) (q1 q2 : Int) (qs : Bool) (q3 : Int) (hq : saidR fs k = (q1, q2, qs, q3)) (h : q3 ≠ 0) :
    Calls Tryz.prog 12 #[.agg #[.string m, .string t, .int .i64 k, .int .i64 n, .string r, f], .string method] w fun e w' => e = .returned (.tuple #[.agg #[.int .i64 (respP fs k n method).1, .int .i64 (respP fs k n method).2.1], .int .i64 (respP fs k n method).2.2]) ∧ Below w.heap.size w w' := by
  have HS := Lib.hid (fun (W : World) hW => rsaid_any m t r k n f fs W hW ok)
  have HBD := Lib.hid (fun (W : World) => rbodiless_any n method W)
  have HV : Hid (respP fs k n method = (0, 0, q3)) := by
    show _ = _
    rw [resp_said, hq]
    rw [if_pos (Or.inl h)]
  rw [hq] at HS
  have KH := Lib.hid ((Blk.new w #[.string m, .string t, .int .i64 k, .int .i64 n, .string r, f] 24).alloc (.cells #[.int .i64 0, .int .i64 0] 28))
  have KF0 := Blk.new (w.alloc (.cells #[.string m, .string t, .int .i64 k, .int .i64 n, .string r, f] 24)) #[.int .i64 0, .int .i64 0] 28
  rw [show (w.alloc (.cells #[.string m, .string t, .int .i64 k, .int .i64 n, .string r, f] 24)).heap.size = w.heap.size + 1 by simp] at KF0
  have KF := Lib.hid KF0
  have B := Lib.hid (((Below.refl w.heap.size w).alloc (Nat.le_refl _) (.cells #[.string m, .string t, .int .i64 k, .int .i64 n, .string r, f] 24)).alloc (by simp) (.cells #[.int .i64 0, .int .i64 0] 28))
  have F := Lib.hid (hF.below B.out)
  clear KF0
  have e1 : (q3 != 0) = true := by rw [bne_iff_ne]; exact h
  have e1b : (q3 == 0) = false := by rw [beq_eq_false_iff_ne]; exact h
  clear h
  clear hF ok hq
  have h00 := KH.out.cell 0
  have h01 := KH.out.cell 1
  have h02 := KH.out.cell 2
  have h03 := KH.out.cell 3
  have h04 := KH.out.cell 4
  have h05 := KH.out.cell 5
  simp at h00 h01 h02 h03 h04 h05
  go_enter Tryz.func12, Tryz.ntmps12
  go_wp2_with fail
  clear h00 h01 h02 h03 h04 h05
  refine (HS.out _ F.out).mono ?_
  rintro e1 w1 ⟨rfl, hb⟩
  replace KH := Lib.hid ((KH.out.call hb).alloc (.cells #[.int .i64 q1, .int .i64 q2] 28))
  replace KF := Lib.hid ((KF.out.call hb).alloc (.cells #[.int .i64 q1, .int .i64 q2] 28))
  have KV := Lib.hid (Blk.new w1 #[.int .i64 q1, .int .i64 q2] 28)
  replace B := Lib.hid ((B.out.trans (hb.mono B.out.size)).alloc (Nat.le_trans B.out.size hb.size) (.cells #[.int .i64 q1, .int .i64 q2] 28))
  clear hb F
  have h03 := KH.out.cell 3
  simp at h03
  have v0 := KV.out.cell 0
  have v1 := KV.out.cell 1
  simp at v0 v1
  have a0 := KF.out.cell 0
  have a1 := KF.out.cell 1
  have f0 := KF.out.froz 0
  have f1 := KF.out.froz 1
  simp at a0 a1
  go_wp2_with fail
  rw [HV.out]
  exact bodyPost_ret (results_agg_tmp Tryz.results12 _ _ _ _ rfl (run_loadVar_row _ _ _ _ _ _ _ (blk_set2 KF.out (.int .i64 0) (.int .i64 0)) Tryz.underlying28 rfl (by kernel_rfl))) rfl ⟨rfl, (B.out.setCell (by simp) _).setCell (by simp) _⟩
set_option maxRecDepth 100000 in
set_option maxHeartbeats 4000000 in
theorem rresp_bod (m t r : ByteArray) (k n : Int) (f : Value) (fs : List Fd) (method : ByteArray) (w : World) (hF : Flds w f fs) (ok : FdsR fs) (q1 q2 : Int) (qs : Bool) (q3 : Int) (hq : saidR fs k = (q1, q2, qs, q3)) (h : q3 = 0) (hb : bodilessP n method = true) :
    Calls Tryz.prog 12 #[.agg #[.string m, .string t, .int .i64 k, .int .i64 n, .string r, f], .string method] w fun e w' => e = .returned (.tuple #[.agg #[.int .i64 (respP fs k n method).1, .int .i64 (respP fs k n method).2.1], .int .i64 (respP fs k n method).2.2]) ∧ Below w.heap.size w w' := by
  have HS := Lib.hid (fun (W : World) hW => rsaid_any m t r k n f fs W hW ok)
  have HBD := Lib.hid (fun (W : World) => rbodiless_any n method W)
  have HV : Hid (respP fs k n method = (0, 0, 0)) := by
    show _ = _
    rw [resp_said, hq]
    rw [if_pos (Or.inr hb), h]
  rw [hq] at HS
  have KH := Lib.hid ((Blk.new w #[.string m, .string t, .int .i64 k, .int .i64 n, .string r, f] 24).alloc (.cells #[.int .i64 0, .int .i64 0] 28))
  have KF0 := Blk.new (w.alloc (.cells #[.string m, .string t, .int .i64 k, .int .i64 n, .string r, f] 24)) #[.int .i64 0, .int .i64 0] 28
  rw [show (w.alloc (.cells #[.string m, .string t, .int .i64 k, .int .i64 n, .string r, f] 24)).heap.size = w.heap.size + 1 by simp] at KF0
  have KF := Lib.hid KF0
  have B := Lib.hid (((Below.refl w.heap.size w).alloc (Nat.le_refl _) (.cells #[.string m, .string t, .int .i64 k, .int .i64 n, .string r, f] 24)).alloc (by simp) (.cells #[.int .i64 0, .int .i64 0] 28))
  have F := Lib.hid (hF.below B.out)
  clear KF0
  rw [hb] at HBD
  subst h
  clear hb
  clear hF ok hq
  have h00 := KH.out.cell 0
  have h01 := KH.out.cell 1
  have h02 := KH.out.cell 2
  have h03 := KH.out.cell 3
  have h04 := KH.out.cell 4
  have h05 := KH.out.cell 5
  simp at h00 h01 h02 h03 h04 h05
  go_enter Tryz.func12, Tryz.ntmps12
  go_wp2_with fail
  clear h00 h01 h02 h03 h04 h05
  refine (HS.out _ F.out).mono ?_
  rintro e1 w1 ⟨rfl, hb⟩
  replace KH := Lib.hid ((KH.out.call hb).alloc (.cells #[.int .i64 q1, .int .i64 q2] 28))
  replace KF := Lib.hid ((KF.out.call hb).alloc (.cells #[.int .i64 q1, .int .i64 q2] 28))
  have KV := Lib.hid (Blk.new w1 #[.int .i64 q1, .int .i64 q2] 28)
  replace B := Lib.hid ((B.out.trans (hb.mono B.out.size)).alloc (Nat.le_trans B.out.size hb.size) (.cells #[.int .i64 q1, .int .i64 q2] 28))
  clear hb F
  have h03 := KH.out.cell 3
  simp at h03
  have v0 := KV.out.cell 0
  have v1 := KV.out.cell 1
  simp at v0 v1
  have a0 := KF.out.cell 0
  have a1 := KF.out.cell 1
  have f0 := KF.out.froz 0
  have f1 := KF.out.froz 1
  simp at a0 a1
  go_wp2_with fail
  refine (HBD.out _).mono ?_
  rintro e2 w2 ⟨rfl, rfl⟩
  go_wp2_with fail
  rw [HV.out]
  exact bodyPost_ret (results_agg_tmp Tryz.results12 _ _ _ _ rfl (run_loadVar_row _ _ _ _ _ _ _ (blk_set2 KF.out (.int .i64 0) (.int .i64 0)) Tryz.underlying28 rfl (by kernel_rfl))) rfl ⟨rfl, (B.out.setCell (by simp) _).setCell (by simp) _⟩
set_option maxRecDepth 100000 in
set_option maxHeartbeats 4000000 in
theorem rresp_non (m t r : ByteArray) (k n : Int) (f : Value) (fs : List Fd) (method : ByteArray) (w : World) (hF : Flds w f fs) (ok : FdsR fs) (q1 q2 : Int) (qs : Bool) (q3 : Int) (hq : saidR fs k = (q1, q2, qs, q3)) (h : q3 = 0) (hb : bodilessP n method = false) (hs : qs = false) :
    Calls Tryz.prog 12 #[.agg #[.string m, .string t, .int .i64 k, .int .i64 n, .string r, f], .string method] w fun e w' => e = .returned (.tuple #[.agg #[.int .i64 (respP fs k n method).1, .int .i64 (respP fs k n method).2.1], .int .i64 (respP fs k n method).2.2]) ∧ Below w.heap.size w w' := by
  have HS := Lib.hid (fun (W : World) hW => rsaid_any m t r k n f fs W hW ok)
  have HBD := Lib.hid (fun (W : World) => rbodiless_any n method W)
  have HV : Hid (respP fs k n method = (3, 0, 0)) := by
    show _ = _
    rw [resp_said, hq]
    rw [if_neg (by rintro (h' | h'); exact h' h; rw [hb] at h'; cases h')]
    rw [if_pos hs, h]
  rw [hq] at HS
  have KH := Lib.hid ((Blk.new w #[.string m, .string t, .int .i64 k, .int .i64 n, .string r, f] 24).alloc (.cells #[.int .i64 0, .int .i64 0] 28))
  have KF0 := Blk.new (w.alloc (.cells #[.string m, .string t, .int .i64 k, .int .i64 n, .string r, f] 24)) #[.int .i64 0, .int .i64 0] 28
  rw [show (w.alloc (.cells #[.string m, .string t, .int .i64 k, .int .i64 n, .string r, f] 24)).heap.size = w.heap.size + 1 by simp] at KF0
  have KF := Lib.hid KF0
  have B := Lib.hid (((Below.refl w.heap.size w).alloc (Nat.le_refl _) (.cells #[.string m, .string t, .int .i64 k, .int .i64 n, .string r, f] 24)).alloc (by simp) (.cells #[.int .i64 0, .int .i64 0] 28))
  have F := Lib.hid (hF.below B.out)
  clear KF0
  rw [hb] at HBD
  subst h hs
  clear hb
  clear hF ok hq
  have h00 := KH.out.cell 0
  have h01 := KH.out.cell 1
  have h02 := KH.out.cell 2
  have h03 := KH.out.cell 3
  have h04 := KH.out.cell 4
  have h05 := KH.out.cell 5
  simp at h00 h01 h02 h03 h04 h05
  go_enter Tryz.func12, Tryz.ntmps12
  go_wp2_with fail
  clear h00 h01 h02 h03 h04 h05
  refine (HS.out _ F.out).mono ?_
  rintro e1 w1 ⟨rfl, hb⟩
  replace KH := Lib.hid ((KH.out.call hb).alloc (.cells #[.int .i64 q1, .int .i64 q2] 28))
  replace KF := Lib.hid ((KF.out.call hb).alloc (.cells #[.int .i64 q1, .int .i64 q2] 28))
  have KV := Lib.hid (Blk.new w1 #[.int .i64 q1, .int .i64 q2] 28)
  replace B := Lib.hid ((B.out.trans (hb.mono B.out.size)).alloc (Nat.le_trans B.out.size hb.size) (.cells #[.int .i64 q1, .int .i64 q2] 28))
  clear hb F
  have h03 := KH.out.cell 3
  simp at h03
  have v0 := KV.out.cell 0
  have v1 := KV.out.cell 1
  simp at v0 v1
  have a0 := KF.out.cell 0
  have a1 := KF.out.cell 1
  have f0 := KF.out.froz 0
  have f1 := KF.out.froz 1
  simp at a0 a1
  go_wp2_with fail
  refine (HBD.out _).mono ?_
  rintro e2 w2 ⟨rfl, rfl⟩
  go_wp2_with fail
  rw [HV.out]
  exact bodyPost_ret (results_agg_tmp Tryz.results12 _ _ _ _ rfl (run_loadVar_row _ _ _ _ _ _ _ (blk_set2 KF.out (.int .i64 3) (.int .i64 0)) Tryz.underlying28 rfl (by kernel_rfl))) rfl ⟨rfl, (B.out.setCell (by simp) _).setCell (by simp) _⟩
set_option maxRecDepth 100000 in
set_option maxHeartbeats 4000000 in
theorem rresp_said (m t r : ByteArray) (k n : Int) (f : Value) (fs : List Fd) (method : ByteArray) (w : World) (hF : Flds w f fs) (ok : FdsR fs) (q1 q2 : Int) (qs : Bool) (q3 : Int) (hq : saidR fs k = (q1, q2, qs, q3)) (h : q3 = 0) (hb : bodilessP n method = false) (hs : qs = true) :
    Calls Tryz.prog 12 #[.agg #[.string m, .string t, .int .i64 k, .int .i64 n, .string r, f], .string method] w fun e w' => e = .returned (.tuple #[.agg #[.int .i64 (respP fs k n method).1, .int .i64 (respP fs k n method).2.1], .int .i64 (respP fs k n method).2.2]) ∧ Below w.heap.size w w' := by
  have HS := Lib.hid (fun (W : World) hW => rsaid_any m t r k n f fs W hW ok)
  have HBD := Lib.hid (fun (W : World) => rbodiless_any n method W)
  have HV : Hid (respP fs k n method = (q1, q2, 0)) := by
    show _ = _
    rw [resp_said, hq]
    rw [if_neg (by rintro (h' | h'); exact h' h; rw [hb] at h'; cases h')]
    rw [if_neg (by rw [hs]; simp), h]
  rw [hq] at HS
  have KH := Lib.hid ((Blk.new w #[.string m, .string t, .int .i64 k, .int .i64 n, .string r, f] 24).alloc (.cells #[.int .i64 0, .int .i64 0] 28))
  have KF0 := Blk.new (w.alloc (.cells #[.string m, .string t, .int .i64 k, .int .i64 n, .string r, f] 24)) #[.int .i64 0, .int .i64 0] 28
  rw [show (w.alloc (.cells #[.string m, .string t, .int .i64 k, .int .i64 n, .string r, f] 24)).heap.size = w.heap.size + 1 by simp] at KF0
  have KF := Lib.hid KF0
  have B := Lib.hid (((Below.refl w.heap.size w).alloc (Nat.le_refl _) (.cells #[.string m, .string t, .int .i64 k, .int .i64 n, .string r, f] 24)).alloc (by simp) (.cells #[.int .i64 0, .int .i64 0] 28))
  have F := Lib.hid (hF.below B.out)
  clear KF0
  rw [hb] at HBD
  subst h hs
  clear hb
  clear hF ok hq
  have h00 := KH.out.cell 0
  have h01 := KH.out.cell 1
  have h02 := KH.out.cell 2
  have h03 := KH.out.cell 3
  have h04 := KH.out.cell 4
  have h05 := KH.out.cell 5
  simp at h00 h01 h02 h03 h04 h05
  go_enter Tryz.func12, Tryz.ntmps12
  go_wp2_with fail
  clear h00 h01 h02 h03 h04 h05
  refine (HS.out _ F.out).mono ?_
  rintro e1 w1 ⟨rfl, hb⟩
  replace KH := Lib.hid ((KH.out.call hb).alloc (.cells #[.int .i64 q1, .int .i64 q2] 28))
  replace KF := Lib.hid ((KF.out.call hb).alloc (.cells #[.int .i64 q1, .int .i64 q2] 28))
  have KV := Lib.hid (Blk.new w1 #[.int .i64 q1, .int .i64 q2] 28)
  replace B := Lib.hid ((B.out.trans (hb.mono B.out.size)).alloc (Nat.le_trans B.out.size hb.size) (.cells #[.int .i64 q1, .int .i64 q2] 28))
  clear hb F
  have h03 := KH.out.cell 3
  simp at h03
  have v0 := KV.out.cell 0
  have v1 := KV.out.cell 1
  simp at v0 v1
  have a0 := KF.out.cell 0
  have a1 := KF.out.cell 1
  have f0 := KF.out.froz 0
  have f1 := KF.out.froz 1
  simp at a0 a1
  go_wp2_with fail
  refine (HBD.out _).mono ?_
  rintro e2 w2 ⟨rfl, rfl⟩
  go_wp2_with fail
  rw [HV.out]
  exact bodyPost_ret (results_agg_tmp Tryz.results12 _ _ _ _ rfl (run_loadVar_row _ _ _ _ _ _ _ (blk_set2 KF.out (.int .i64 q1) (.int .i64 q2)) Tryz.underlying28 rfl (by kernel_rfl))) rfl ⟨rfl, (B.out.setCell (by simp) _).setCell (by simp) _⟩
theorem rresponse_any (m t r : ByteArray) (k n : Int) (f : Value) (fs : List Fd) (method : ByteArray) (w : World) (hF : Flds w f fs) (ok : FdsR fs) :
    Calls Tryz.prog 12 #[.agg #[.string m, .string t, .int .i64 k, .int .i64 n, .string r, f], .string method] w fun e w' => e = .returned (.tuple #[.agg #[.int .i64 (respP fs k n method).1, .int .i64 (respP fs k n method).2.1], .int .i64 (respP fs k n method).2.2]) ∧ Below w.heap.size w w' := by
  obtain ⟨q1, q2, qs, q3, hq⟩ : ∃ q1 q2 qs q3, saidR fs k = (q1, q2, qs, q3) := ⟨_, _, _, _, rfl⟩
  by_cases h : q3 = 0
  · cases hb : bodilessP n method with
    | true => exact rresp_bod m t r k n f fs method w hF ok q1 q2 qs q3 hq h hb
    | false =>
      cases hs : qs with
      | true => exact rresp_said m t r k n f fs method w hF ok q1 q2 qs q3 hq h hb hs
      | false => exact rresp_non m t r k n f fs method w hF ok q1 q2 qs q3 hq h hb hs
  · exact rresp_err m t r k n f fs method w hF ok q1 q2 qs q3 hq h
set_option maxRecDepth 100000 in
set_option maxHeartbeats 4000000 in
theorem rreq_many (m t r : ByteArray) (k n : Int) (A : Option Addr) (len cap : Nat) (fs : List Fd) (w : World) (hF : Flds w (.slice A len cap) fs) (ok : FdsR fs) (q1 q2 : Int) (qs : Bool) (q3 : Int) (hq : saidR fs k = (q1, q2, qs, q3)) (hl : 1 < (allB fs hoB).length) :
    Calls Tryz.prog 10 #[.agg #[.string m, .string t, .int .i64 k, .int .i64 n, .string r, .slice A len cap]] w fun e w' => e = .returned (.tuple #[.agg #[.int .i64 (reqP fs k).1, .int .i64 (reqP fs k).2.1], .int .i64 (reqP fs k).2.2]) ∧ Below w.heap.size w w' := by
  have HS := Lib.hid (fun (W : World) hW => rsaid_any m t r k n (.slice A len cap) fs W hW ok)
  rw [hq] at HS
  have HA : Hid (∀ W, Flds W (.slice A len cap) fs → Calls Tryz.prog 35 #[.slice A len cap, .string ⟨#[104, 111, 115, 116]⟩] W fun e w' => ∃ v, e = .returned v ∧ OwnS w' W.heap.size v (allB fs hoB) ∧ Below W.heap.size W w') := fun W hW => by
    have h := rall_any fs (.slice A len cap) ⟨#[104, 111, 115, 116]⟩ W hW (by have := ok.len; omega) ok.nam (by decide)
    rw [allB_low (b := hoB) fs (by decide +kernel)] at h
    exact h
  have hvs : ∀ s ∈ allB fs hoB, s.size ≤ 1000000 := fun s hss => by
    unfold allB at hss
    obtain ⟨q, hq, rfl⟩ := List.mem_map.1 hss
    have := ok.val q (List.mem_filter.1 hq).1
    omega
  have HV : Hid (reqP fs k = (0, 0, 13)) := by
    show _ = _
    have hl2 : hostedP fs k = false := by
      rw [hostedV_eq]
      match h : allB fs hoB with
      | [] => rw [h] at hl; simp at hl
      | [s] => rw [h] at hl; simp at hl
      | a :: b :: c => rfl
    unfold reqP
    rw [if_pos hl2]
  obtain ⟨L, hL⟩ : ∃ L, L = allB fs hoB := ⟨_, rfl⟩
  rw [← hL] at HA hvs hl
  have KH := Lib.hid ((Blk.new w #[.string m, .string t, .int .i64 k, .int .i64 n, .string r, .slice A len cap] 24).alloc (.cells #[.int .i64 0, .int .i64 0] 28))
  have KF0 := Blk.new (w.alloc (.cells #[.string m, .string t, .int .i64 k, .int .i64 n, .string r, .slice A len cap] 24)) #[.int .i64 0, .int .i64 0] 28
  rw [show (w.alloc (.cells #[.string m, .string t, .int .i64 k, .int .i64 n, .string r, .slice A len cap] 24)).heap.size = w.heap.size + 1 by simp] at KF0
  have KF := Lib.hid KF0
  have B := Lib.hid (((Below.refl w.heap.size w).alloc (Nat.le_refl _) (.cells #[.string m, .string t, .int .i64 k, .int .i64 n, .string r, .slice A len cap] 24)).alloc (by simp) (.cells #[.int .i64 0, .int .i64 0] 28))
  have F := Lib.hid (hF.below B.out)
  clear KF0
  obtain ⟨c, hc⟩ : ∃ c, c = L.length := ⟨_, rfl⟩
  have o1 : decide ((1 : Int) < (c : Int)) = true := decide_eq_true (by omega)
  have o2 : decide (1 < c) = true := decide_eq_true (by omega)
  clear hF ok hq hL
  have h05 := KH.out.cell 5
  simp at h05
  go_enter Tryz.func10, Tryz.ntmps10
  go_wp2_with fail
  clear h05
  refine (HA.out _ F.out).mono ?_
  rintro e0 w0 ⟨v0, rfl, ho, hb⟩
  obtain ⟨p0, c0, rfl⟩ := OwnS.shape ho
  rw [← hc]
  clear hc hl hvs
  replace KH := Lib.hid (KH.out.call hb)
  replace KF := Lib.hid (KF.out.call hb)
  replace B := Lib.hid (B.out.trans (hb.mono B.out.size))
  replace F := Lib.hid (F.out.below hb)
  clear hb ho
  have h02 := KH.out.cell 2
  simp at h02
  have a0 := KF.out.cell 0
  have a1 := KF.out.cell 1
  have f0 := KF.out.froz 0
  have f1 := KF.out.froz 1
  simp at a0 a1
  go_wp2_with fail
  rw [HV.out]
  exact bodyPost_ret (results_agg_tmp Tryz.results10 _ _ _ _ rfl (run_loadVar_row _ _ _ _ _ _ _ (blk_set2 KF.out (.int .i64 0) (.int .i64 0)) Tryz.underlying28 rfl (by kernel_rfl))) rfl ⟨rfl, (B.out.setCell (by simp) _).setCell (by simp) _⟩
set_option maxRecDepth 100000 in
set_option maxHeartbeats 4000000 in
theorem rreq_none (m t r : ByteArray) (k n : Int) (A : Option Addr) (len cap : Nat) (fs : List Fd) (w : World) (hF : Flds w (.slice A len cap) fs) (ok : FdsR fs) (q1 q2 : Int) (qs : Bool) (q3 : Int) (hq : saidR fs k = (q1, q2, qs, q3)) (hl : allB fs hoB = []) (hk : 0 < k) :
    Calls Tryz.prog 10 #[.agg #[.string m, .string t, .int .i64 k, .int .i64 n, .string r, .slice A len cap]] w fun e w' => e = .returned (.tuple #[.agg #[.int .i64 (reqP fs k).1, .int .i64 (reqP fs k).2.1], .int .i64 (reqP fs k).2.2]) ∧ Below w.heap.size w w' := by
  have HS := Lib.hid (fun (W : World) hW => rsaid_any m t r k n (.slice A len cap) fs W hW ok)
  rw [hq] at HS
  have HA : Hid (∀ W, Flds W (.slice A len cap) fs → Calls Tryz.prog 35 #[.slice A len cap, .string ⟨#[104, 111, 115, 116]⟩] W fun e w' => ∃ v, e = .returned v ∧ OwnS w' W.heap.size v (allB fs hoB) ∧ Below W.heap.size W w') := fun W hW => by
    have h := rall_any fs (.slice A len cap) ⟨#[104, 111, 115, 116]⟩ W hW (by have := ok.len; omega) ok.nam (by decide)
    rw [allB_low (b := hoB) fs (by decide +kernel)] at h
    exact h
  have hvs : ∀ s ∈ allB fs hoB, s.size ≤ 1000000 := fun s hss => by
    unfold allB at hss
    obtain ⟨q, hq, rfl⟩ := List.mem_map.1 hss
    have := ok.val q (List.mem_filter.1 hq).1
    omega
  have HV : Hid (reqP fs k = (0, 0, 13)) := by
    show _ = _
    have hl2 : hostedP fs k = false := by
      rw [hostedV_eq, hl]
      exact decide_eq_false (by omega)
    unfold reqP
    rw [if_pos hl2]
  obtain ⟨L, hL⟩ : ∃ L, L = allB fs hoB := ⟨_, rfl⟩
  rw [← hL] at HA hvs hl
  have KH := Lib.hid ((Blk.new w #[.string m, .string t, .int .i64 k, .int .i64 n, .string r, .slice A len cap] 24).alloc (.cells #[.int .i64 0, .int .i64 0] 28))
  have KF0 := Blk.new (w.alloc (.cells #[.string m, .string t, .int .i64 k, .int .i64 n, .string r, .slice A len cap] 24)) #[.int .i64 0, .int .i64 0] 28
  rw [show (w.alloc (.cells #[.string m, .string t, .int .i64 k, .int .i64 n, .string r, .slice A len cap] 24)).heap.size = w.heap.size + 1 by simp] at KF0
  have KF := Lib.hid KF0
  have B := Lib.hid (((Below.refl w.heap.size w).alloc (Nat.le_refl _) (.cells #[.string m, .string t, .int .i64 k, .int .i64 n, .string r, .slice A len cap] 24)).alloc (by simp) (.cells #[.int .i64 0, .int .i64 0] 28))
  have F := Lib.hid (hF.below B.out)
  clear KF0
  have o1 : decide (0 < k) = true := decide_eq_true hk
  subst hl
  clear hk
  clear hF ok hq hL
  have h05 := KH.out.cell 5
  simp at h05
  go_enter Tryz.func10, Tryz.ntmps10
  go_wp2_with fail
  clear h05
  refine (HA.out _ F.out).mono ?_
  rintro e0 w0 ⟨v0, rfl, ho, hb⟩
  obtain ⟨p0, c0, rfl⟩ := OwnS.shape ho
  clear hvs
  replace KH := Lib.hid (KH.out.call hb)
  replace KF := Lib.hid (KF.out.call hb)
  replace B := Lib.hid (B.out.trans (hb.mono B.out.size))
  replace F := Lib.hid (F.out.below hb)
  clear hb ho
  have h02 := KH.out.cell 2
  simp at h02
  have a0 := KF.out.cell 0
  have a1 := KF.out.cell 1
  have f0 := KF.out.froz 0
  have f1 := KF.out.froz 1
  simp at a0 a1
  go_wp2_with fail
  rw [HV.out]
  exact bodyPost_ret (results_agg_tmp Tryz.results10 _ _ _ _ rfl (run_loadVar_row _ _ _ _ _ _ _ (blk_set2 KF.out (.int .i64 0) (.int .i64 0)) Tryz.underlying28 rfl (by kernel_rfl))) rfl ⟨rfl, (B.out.setCell (by simp) _).setCell (by simp) _⟩
set_option maxRecDepth 100000 in
set_option maxHeartbeats 4000000 in
theorem rreq_free (m t r : ByteArray) (k n : Int) (A : Option Addr) (len cap : Nat) (fs : List Fd) (w : World) (hF : Flds w (.slice A len cap) fs) (ok : FdsR fs) (q1 q2 : Int) (qs : Bool) (q3 : Int) (hq : saidR fs k = (q1, q2, qs, q3)) (hl : allB fs hoB = []) (hk : ¬ 0 < k) :
    Calls Tryz.prog 10 #[.agg #[.string m, .string t, .int .i64 k, .int .i64 n, .string r, .slice A len cap]] w fun e w' => e = .returned (.tuple #[.agg #[.int .i64 (reqP fs k).1, .int .i64 (reqP fs k).2.1], .int .i64 (reqP fs k).2.2]) ∧ Below w.heap.size w w' := by
  have HS := Lib.hid (fun (W : World) hW => rsaid_any m t r k n (.slice A len cap) fs W hW ok)
  rw [hq] at HS
  have HA : Hid (∀ W, Flds W (.slice A len cap) fs → Calls Tryz.prog 35 #[.slice A len cap, .string ⟨#[104, 111, 115, 116]⟩] W fun e w' => ∃ v, e = .returned v ∧ OwnS w' W.heap.size v (allB fs hoB) ∧ Below W.heap.size W w') := fun W hW => by
    have h := rall_any fs (.slice A len cap) ⟨#[104, 111, 115, 116]⟩ W hW (by have := ok.len; omega) ok.nam (by decide)
    rw [allB_low (b := hoB) fs (by decide +kernel)] at h
    exact h
  have hvs : ∀ s ∈ allB fs hoB, s.size ≤ 1000000 := fun s hss => by
    unfold allB at hss
    obtain ⟨q, hq, rfl⟩ := List.mem_map.1 hss
    have := ok.val q (List.mem_filter.1 hq).1
    omega
  have HV : Hid (reqP fs k = (q1, q2, q3)) := by
    show _ = _
    have hl2 : hostedP fs k = true := by
      rw [hostedV_eq, hl]
      exact decide_eq_true (by omega)
    rw [req_said hl2, hq]
  obtain ⟨L, hL⟩ : ∃ L, L = allB fs hoB := ⟨_, rfl⟩
  rw [← hL] at HA hvs hl
  have KH := Lib.hid ((Blk.new w #[.string m, .string t, .int .i64 k, .int .i64 n, .string r, .slice A len cap] 24).alloc (.cells #[.int .i64 0, .int .i64 0] 28))
  have KF0 := Blk.new (w.alloc (.cells #[.string m, .string t, .int .i64 k, .int .i64 n, .string r, .slice A len cap] 24)) #[.int .i64 0, .int .i64 0] 28
  rw [show (w.alloc (.cells #[.string m, .string t, .int .i64 k, .int .i64 n, .string r, .slice A len cap] 24)).heap.size = w.heap.size + 1 by simp] at KF0
  have KF := Lib.hid KF0
  have B := Lib.hid (((Below.refl w.heap.size w).alloc (Nat.le_refl _) (.cells #[.string m, .string t, .int .i64 k, .int .i64 n, .string r, .slice A len cap] 24)).alloc (by simp) (.cells #[.int .i64 0, .int .i64 0] 28))
  have F := Lib.hid (hF.below B.out)
  clear KF0
  have o1 : decide (0 < k) = false := decide_eq_false hk
  subst hl
  clear hk
  clear hF ok hq hL
  have h05 := KH.out.cell 5
  simp at h05
  go_enter Tryz.func10, Tryz.ntmps10
  go_wp2_with fail
  clear h05
  refine (HA.out _ F.out).mono ?_
  rintro e0 w0 ⟨v0, rfl, ho, hb⟩
  obtain ⟨p0, c0, rfl⟩ := OwnS.shape ho
  clear hvs
  replace KH := Lib.hid (KH.out.call hb)
  replace KF := Lib.hid (KF.out.call hb)
  replace B := Lib.hid (B.out.trans (hb.mono B.out.size))
  replace F := Lib.hid (F.out.below hb)
  clear hb ho
  have h00 := KH.out.cell 0
  have h01 := KH.out.cell 1
  have h02 := KH.out.cell 2
  have h03 := KH.out.cell 3
  have h04 := KH.out.cell 4
  have h05 := KH.out.cell 5
  simp at h00 h01 h02 h03 h04 h05
  go_wp2_with fail
  clear h00 h01 h02 h03 h04 h05
  refine (HS.out _ F.out).mono ?_
  rintro e2 w2 ⟨rfl, hb⟩
  replace KH := Lib.hid ((KH.out.call hb).alloc (.cells #[.int .i64 q1, .int .i64 q2] 28))
  replace KF := Lib.hid ((KF.out.call hb).alloc (.cells #[.int .i64 q1, .int .i64 q2] 28))
  have KV := Lib.hid (Blk.new w2 #[.int .i64 q1, .int .i64 q2] 28)
  replace B := Lib.hid ((B.out.trans (hb.mono B.out.size)).alloc (Nat.le_trans B.out.size hb.size) (.cells #[.int .i64 q1, .int .i64 q2] 28))
  clear hb F
  have v0 := KV.out.cell 0
  have v1 := KV.out.cell 1
  simp at v0 v1
  have a0 := KF.out.cell 0
  have a1 := KF.out.cell 1
  have f0 := KF.out.froz 0
  have f1 := KF.out.froz 1
  simp at a0 a1
  go_wp2_with fail
  rw [HV.out]
  exact bodyPost_ret (results_agg_tmp Tryz.results10 _ _ _ _ rfl (run_loadVar_row _ _ _ _ _ _ _ (blk_set2 KF.out (.int .i64 q1) (.int .i64 q2)) Tryz.underlying28 rfl (by kernel_rfl))) rfl ⟨rfl, (B.out.setCell (by simp) _).setCell (by simp) _⟩
set_option maxRecDepth 100000 in
set_option maxHeartbeats 4000000 in
theorem rreq_bad (m t r : ByteArray) (k n : Int) (A : Option Addr) (len cap : Nat) (fs : List Fd) (w : World) (hF : Flds w (.slice A len cap) fs) (ok : FdsR fs) (q1 q2 : Int) (qs : Bool) (q3 : Int) (hq : saidR fs k = (q1, q2, qs, q3)) (s : ByteArray) (hl : allB fs hoB = [s]) (he : (hostR s.data.toList).2.2 ≠ 0) :
    Calls Tryz.prog 10 #[.agg #[.string m, .string t, .int .i64 k, .int .i64 n, .string r, .slice A len cap]] w fun e w' => e = .returned (.tuple #[.agg #[.int .i64 (reqP fs k).1, .int .i64 (reqP fs k).2.1], .int .i64 (reqP fs k).2.2]) ∧ Below w.heap.size w w' := by
  have HS := Lib.hid (fun (W : World) hW => rsaid_any m t r k n (.slice A len cap) fs W hW ok)
  rw [hq] at HS
  have HA : Hid (∀ W, Flds W (.slice A len cap) fs → Calls Tryz.prog 35 #[.slice A len cap, .string ⟨#[104, 111, 115, 116]⟩] W fun e w' => ∃ v, e = .returned v ∧ OwnS w' W.heap.size v (allB fs hoB) ∧ Below W.heap.size W w') := fun W hW => by
    have h := rall_any fs (.slice A len cap) ⟨#[104, 111, 115, 116]⟩ W hW (by have := ok.len; omega) ok.nam (by decide)
    rw [allB_low (b := hoB) fs (by decide +kernel)] at h
    exact h
  have hvs : ∀ s ∈ allB fs hoB, s.size ≤ 1000000 := fun s hss => by
    unfold allB at hss
    obtain ⟨q, hq, rfl⟩ := List.mem_map.1 hss
    have := ok.val q (List.mem_filter.1 hq).1
    omega
  have HV : Hid (reqP fs k = (0, 0, 13)) := by
    show _ = _
    have hl2 : hostedP fs k = false := by
      rw [hostedV_eq, hl]
      show ((hostR s.data.toList).2.2 == 0) = false
      rw [beq_eq_false_iff_ne]
      exact he
    unfold reqP
    rw [if_pos hl2]
  obtain ⟨L, hL⟩ : ∃ L, L = allB fs hoB := ⟨_, rfl⟩
  rw [← hL] at HA hvs hl
  have KH := Lib.hid ((Blk.new w #[.string m, .string t, .int .i64 k, .int .i64 n, .string r, .slice A len cap] 24).alloc (.cells #[.int .i64 0, .int .i64 0] 28))
  have KF0 := Blk.new (w.alloc (.cells #[.string m, .string t, .int .i64 k, .int .i64 n, .string r, .slice A len cap] 24)) #[.int .i64 0, .int .i64 0] 28
  rw [show (w.alloc (.cells #[.string m, .string t, .int .i64 k, .int .i64 n, .string r, .slice A len cap] 24)).heap.size = w.heap.size + 1 by simp] at KF0
  have KF := Lib.hid KF0
  have B := Lib.hid (((Below.refl w.heap.size w).alloc (Nat.le_refl _) (.cells #[.string m, .string t, .int .i64 k, .int .i64 n, .string r, .slice A len cap] 24)).alloc (by simp) (.cells #[.int .i64 0, .int .i64 0] 28))
  have F := Lib.hid (hF.below B.out)
  clear KF0
  have HPR := Lib.hid (rhparse11_any s (by rw [hl] at hvs; exact hvs s (by simp)))
  obtain ⟨x1, x2, x3, hx⟩ : ∃ x1 x2 x3, hostR s.data.toList = (x1, x2, x3) := ⟨_, _, _, rfl⟩
  rw [hx] at HPR he
  have o1 : (x3 != 0) = true := by rw [bne_iff_ne]; exact he
  have o1b : (x3 == 0) = false := by rw [beq_eq_false_iff_ne]; exact he
  subst hl
  clear he hx
  clear hF ok hq hL
  have h05 := KH.out.cell 5
  simp at h05
  go_enter Tryz.func10, Tryz.ntmps10
  go_wp2_with fail
  clear h05
  refine (HA.out _ F.out).mono ?_
  rintro e0 w0 ⟨v0, rfl, ho, hb⟩
  obtain ⟨p0, c0, rfl⟩ := OwnS.shape ho
  obtain ⟨g0, cp0, cur0, hv0, -, -, -, -⟩ := OwnS.block ho (by simp)
  injection hv0 with e1 e2 e3
  subst e1 e3
  have c00 : w0.cell? ⟨g0, 0, none⟩ = some (.string s) := OwnS.cell (l := [s]) ho 0 (by simp)
  clear hvs e2
  replace KH := Lib.hid (KH.out.call hb)
  replace KF := Lib.hid (KF.out.call hb)
  replace B := Lib.hid (B.out.trans (hb.mono B.out.size))
  replace F := Lib.hid (F.out.below hb)
  clear hb ho
  have a0 := KF.out.cell 0
  have a1 := KF.out.cell 1
  have f0 := KF.out.froz 0
  have f1 := KF.out.froz 1
  simp at a0 a1
  go_wp2_with fail
  refine (HPR.out _).mono ?_
  rintro e1 w1 ⟨nm, rfl, rfl⟩
  go_wp2_with fail
  rw [HV.out]
  exact bodyPost_ret (results_agg_tmp Tryz.results10 _ _ _ _ rfl (run_loadVar_row _ _ _ _ _ _ _ (blk_set2 KF.out (.int .i64 0) (.int .i64 0)) Tryz.underlying28 rfl (by kernel_rfl))) rfl ⟨rfl, (B.out.setCell (by simp) _).setCell (by simp) _⟩
set_option maxRecDepth 100000 in
set_option maxHeartbeats 4000000 in
theorem rreq_one (m t r : ByteArray) (k n : Int) (A : Option Addr) (len cap : Nat) (fs : List Fd) (w : World) (hF : Flds w (.slice A len cap) fs) (ok : FdsR fs) (q1 q2 : Int) (qs : Bool) (q3 : Int) (hq : saidR fs k = (q1, q2, qs, q3)) (s : ByteArray) (hl : allB fs hoB = [s]) (he : (hostR s.data.toList).2.2 = 0) :
    Calls Tryz.prog 10 #[.agg #[.string m, .string t, .int .i64 k, .int .i64 n, .string r, .slice A len cap]] w fun e w' => e = .returned (.tuple #[.agg #[.int .i64 (reqP fs k).1, .int .i64 (reqP fs k).2.1], .int .i64 (reqP fs k).2.2]) ∧ Below w.heap.size w w' := by
  have HS := Lib.hid (fun (W : World) hW => rsaid_any m t r k n (.slice A len cap) fs W hW ok)
  rw [hq] at HS
  have HA : Hid (∀ W, Flds W (.slice A len cap) fs → Calls Tryz.prog 35 #[.slice A len cap, .string ⟨#[104, 111, 115, 116]⟩] W fun e w' => ∃ v, e = .returned v ∧ OwnS w' W.heap.size v (allB fs hoB) ∧ Below W.heap.size W w') := fun W hW => by
    have h := rall_any fs (.slice A len cap) ⟨#[104, 111, 115, 116]⟩ W hW (by have := ok.len; omega) ok.nam (by decide)
    rw [allB_low (b := hoB) fs (by decide +kernel)] at h
    exact h
  have hvs : ∀ s ∈ allB fs hoB, s.size ≤ 1000000 := fun s hss => by
    unfold allB at hss
    obtain ⟨q, hq, rfl⟩ := List.mem_map.1 hss
    have := ok.val q (List.mem_filter.1 hq).1
    omega
  have HV : Hid (reqP fs k = (q1, q2, q3)) := by
    show _ = _
    have hl2 : hostedP fs k = true := by
      rw [hostedV_eq, hl]
      show ((hostR s.data.toList).2.2 == 0) = true
      rw [beq_iff_eq]
      exact he
    rw [req_said hl2, hq]
  obtain ⟨L, hL⟩ : ∃ L, L = allB fs hoB := ⟨_, rfl⟩
  rw [← hL] at HA hvs hl
  have KH := Lib.hid ((Blk.new w #[.string m, .string t, .int .i64 k, .int .i64 n, .string r, .slice A len cap] 24).alloc (.cells #[.int .i64 0, .int .i64 0] 28))
  have KF0 := Blk.new (w.alloc (.cells #[.string m, .string t, .int .i64 k, .int .i64 n, .string r, .slice A len cap] 24)) #[.int .i64 0, .int .i64 0] 28
  rw [show (w.alloc (.cells #[.string m, .string t, .int .i64 k, .int .i64 n, .string r, .slice A len cap] 24)).heap.size = w.heap.size + 1 by simp] at KF0
  have KF := Lib.hid KF0
  have B := Lib.hid (((Below.refl w.heap.size w).alloc (Nat.le_refl _) (.cells #[.string m, .string t, .int .i64 k, .int .i64 n, .string r, .slice A len cap] 24)).alloc (by simp) (.cells #[.int .i64 0, .int .i64 0] 28))
  have F := Lib.hid (hF.below B.out)
  clear KF0
  have HPR := Lib.hid (rhparse11_any s (by rw [hl] at hvs; exact hvs s (by simp)))
  rw [he] at HPR
  subst hl
  clear he
  clear hF ok hq hL
  have h05 := KH.out.cell 5
  simp at h05
  go_enter Tryz.func10, Tryz.ntmps10
  go_wp2_with fail
  clear h05
  refine (HA.out _ F.out).mono ?_
  rintro e0 w0 ⟨v0, rfl, ho, hb⟩
  obtain ⟨p0, c0, rfl⟩ := OwnS.shape ho
  obtain ⟨g0, cp0, cur0, hv0, -, -, -, -⟩ := OwnS.block ho (by simp)
  injection hv0 with e1 e2 e3
  subst e1 e3
  have c00 : w0.cell? ⟨g0, 0, none⟩ = some (.string s) := OwnS.cell (l := [s]) ho 0 (by simp)
  clear hvs e2
  replace KH := Lib.hid (KH.out.call hb)
  replace KF := Lib.hid (KF.out.call hb)
  replace B := Lib.hid (B.out.trans (hb.mono B.out.size))
  replace F := Lib.hid (F.out.below hb)
  clear hb ho
  have h00 := KH.out.cell 0
  have h01 := KH.out.cell 1
  have h02 := KH.out.cell 2
  have h03 := KH.out.cell 3
  have h04 := KH.out.cell 4
  have h05 := KH.out.cell 5
  simp at h00 h01 h02 h03 h04 h05
  go_wp2_with fail
  refine (HPR.out _).mono ?_
  rintro e1 w1 ⟨nm, rfl, rfl⟩
  go_wp2_with fail
  clear h00 h01 h02 h03 h04 h05
  refine (HS.out _ F.out).mono ?_
  rintro e2 w2 ⟨rfl, hb⟩
  replace KH := Lib.hid ((KH.out.call hb).alloc (.cells #[.int .i64 q1, .int .i64 q2] 28))
  replace KF := Lib.hid ((KF.out.call hb).alloc (.cells #[.int .i64 q1, .int .i64 q2] 28))
  have KV := Lib.hid (Blk.new w2 #[.int .i64 q1, .int .i64 q2] 28)
  replace B := Lib.hid ((B.out.trans (hb.mono B.out.size)).alloc (Nat.le_trans B.out.size hb.size) (.cells #[.int .i64 q1, .int .i64 q2] 28))
  clear hb F
  have v0 := KV.out.cell 0
  have v1 := KV.out.cell 1
  simp at v0 v1
  have a0 := KF.out.cell 0
  have a1 := KF.out.cell 1
  have f0 := KF.out.froz 0
  have f1 := KF.out.froz 1
  simp at a0 a1
  go_wp2_with fail
  rw [HV.out]
  exact bodyPost_ret (results_agg_tmp Tryz.results10 _ _ _ _ rfl (run_loadVar_row _ _ _ _ _ _ _ (blk_set2 KF.out (.int .i64 q1) (.int .i64 q2)) Tryz.underlying28 rfl (by kernel_rfl))) rfl ⟨rfl, (B.out.setCell (by simp) _).setCell (by simp) _⟩
theorem rrequest_any (m t r : ByteArray) (k n : Int) (f : Value) (fs : List Fd) (w : World) (hF : Flds w f fs) (ok : FdsR fs) :
    Calls Tryz.prog 10 #[.agg #[.string m, .string t, .int .i64 k, .int .i64 n, .string r, f]] w fun e w' => e = .returned (.tuple #[.agg #[.int .i64 (reqP fs k).1, .int .i64 (reqP fs k).2.1], .int .i64 (reqP fs k).2.2]) ∧ Below w.heap.size w w' := by
  obtain ⟨q1, q2, qs, q3, hq⟩ : ∃ q1 q2 qs q3, saidR fs k = (q1, q2, qs, q3) := ⟨_, _, _, _, rfl⟩
  obtain ⟨A, cap, rfl, _⟩ := id hF
  match hl : allB fs hoB with
  | [] =>
    by_cases hk : 0 < k
    · exact rreq_none m t r k n A _ cap fs w hF ok q1 q2 qs q3 hq hl hk
    · exact rreq_free m t r k n A _ cap fs w hF ok q1 q2 qs q3 hq hl hk
  | [s] =>
    by_cases he : (hostR s.data.toList).2.2 = 0
    · exact rreq_one m t r k n A _ cap fs w hF ok q1 q2 qs q3 hq s hl he
    · exact rreq_bad m t r k n A _ cap fs w hF ok q1 q2 qs q3 hq s hl he
  | a :: b :: c => exact rreq_many m t r k n A _ cap fs w hF ok q1 q2 qs q3 hq (by rw [hl]; simp)
end Go.Proofs.YtcpjkemjpgggcaaGreatDoor

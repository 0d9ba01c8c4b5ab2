/- Texts packed for one claim, 32 of 34: FrLaw. -/
import Derived.Test.YtcpjkemjpgggcaaGreatDoorFraQ26
import Derived.Test.YtcpjkemjpgggcaaGreatDoorFraQ31
set_option linter.unusedSimpArgs false
set_option linter.unusedVariables false
-- FrLaw
namespace Go.Proofs.YtcpjkemjpgggcaaGreatDoor
open Go.RowKit
theorem capN_few {vals : List ByteArray} {a b : Nat} (hl : vals.length ≤ a) (hs : ∀ s ∈ vals, s.size ≤ b) : capN vals ≤ a * (b + 1) := by
  have h : ∀ l : List ByteArray, (∀ s ∈ l, s.size ≤ b) → capN l ≤ l.length * (b + 1) := by
    intro l
    induction l with
    | nil => intro _; exact Nat.zero_le _
    | cons x t ih =>
      intro h
      have h1 := ih (fun s hs => h s (by simp [hs]))
      have h2 := h x (by simp)
      unfold capN at h1 ⊢
      simp only [List.map_cons, List.sum_cons, List.length_cons, Nat.add_mul] at h1 ⊢
      omega
  exact Nat.le_trans (h vals hs) (Nat.mul_le_mul_right _ hl)
theorem fdsR_few {fs : List Fd} (h : fs.length ≤ 40) (hg : ∀ g ∈ fs, g.1.size ≤ 1000 ∧ g.2.size ≤ 1000) : FdsR fs := by
  have ok := fdsOk_few (fs := fs) (by omega) hg
  refine ⟨by omega, ok.nam, fun g m => by have := (hg g m).2; omega, ?_, ?_⟩
  · have h1 := joinL_size (allB fs teB) 1000 (fun s hs => by
      unfold allB at hs
      obtain ⟨q, hq, rfl⟩ := List.mem_map.1 hs
      exact (hg q (List.mem_filter.1 hq).1).2)
    have h2 := allB_len fs teB
    have h3 : (allB fs teB).length * (1000 + 2) ≤ 40 * (1000 + 2) := Nat.mul_le_mul_right _ (by omega)
    omega
  · have h2 := allB_len fs clB
    have h1 := capN_few (vals := allB fs clB) (a := 40) (b := 1000) (by omega) (fun s hs => by
      unfold allB at hs
      obtain ⟨q, hq, rfl⟩ := List.mem_map.1 hs
      exact (hg q (List.mem_filter.1 hq).1).2)
    omega
set_option maxRecDepth 100000 in
set_option maxHeartbeats 1000000 in
theorem bodiless_same (status : Int) (method : ByteArray) (w : World) : Calls Tryz.prog 13 #[.int .i64 status, .string method] w fun e w' => e = .returned (.bool (bodilessP status method)) ∧ w = w' := by
  have hd : decide (100 ≤ status ∧ status ≤ 199) = (decide (100 ≤ status) && decide (status ≤ 199)) := Bool.decide_and _ _
  have d4 : (status == 204) = decide (status = 204) := rfl
  have d5 : (status == 304) = decide (status = 304) := rfl
  obtain ⟨b2, hb2⟩ : ∃ b, b = decide (100 ≤ status) := ⟨_, rfl⟩
  obtain ⟨b3, hb3⟩ : ∃ b, b = decide (status ≤ 199) := ⟨_, rfl⟩
  obtain ⟨b4, hb4⟩ : ∃ b, b = decide (status = 204) := ⟨_, rfl⟩
  obtain ⟨b5, hb5⟩ : ∃ b, b = decide (status = 304) := ⟨_, rfl⟩
  obtain ⟨b1, hb1⟩ : ∃ b, b = decide (method = ⟨#[72, 69, 65, 68]⟩) := ⟨_, rfl⟩
  have HV : Hid (bodilessP status method = (b1 || ((b2 && b3) || (b4 || b5)))) := by
    show _ = _
    unfold bodilessP
    rw [hd, hb1, hb2, hb3, hb4, hb5]
  rw [← hb4] at d4
  rw [← hb5] at d5
  have d2 : decide (100 ≤ status) = b2 := hb2.symm
  have d3 : decide (status ≤ 199) = b3 := hb3.symm
  clear hb2 hb3 hb4 hb5 hd
  by_cases hm : method = ⟨#[72, 69, 65, 68]⟩
  · rw [decide_eq_true hm] at hb1
    subst hb1
    subst hm
    go_enter Tryz.func13, Tryz.ntmps13
    go_wp2_with fail
    go_ret
    rw [HV.out]
    exact ⟨rfl, rfl⟩
  · rw [decide_eq_false hm] at hb1
    subst hb1
    have hx : ¬ (method.toList = [72, 69, 65, 68]) := by
      intro h
      rw [ByteArray.toList_eq] at h
      exact hm (ext_list h)
    have hy : (method.toList == [72, 69, 65, 68]) = false := by rw [beq_eq_false_iff_ne]; exact hx
    clear hm
    cases b2 <;> cases b3 <;> cases b4
    all_goals
      go_enter Tryz.func13, Tryz.ntmps13
      go_wp2_with fail
      go_ret
      rw [HV.out]
      exact ⟨rfl, rfl⟩
set_option maxRecDepth 100000 in
set_option maxHeartbeats 4000000 in
theorem frq_short (m t r : ByteArray) (k n : Int) (A : Option Addr) (len cap : Nat) (l : List Fd) (w : World) (sh : Bool)
    (hS : ∀ W, Below w.heap.size w W → Calls Tryz.prog 7 #[.agg #[.string m, .string t, .int .i64 k, .int .i64 n, .string r, .slice A len cap]] W fun e w' => e = .returned (.bool sh) ∧ Below W.heap.size W w')
    (hsh : sh = false) :
    Calls Tryz.prog 3 #[.agg #[.string m, .string t, .int .i64 k, .int .i64 n, .string r, .slice A len cap]] w fun e w' => e = .returned (.bool true) ∧ Below w.heap.size w w' := by
  have HS := Lib.hid hS
  have HLV := Lib.hid (fun (W : World) => frlives_any W)
  have B := Lib.hid ((Below.refl w.heap.size w).alloc (Nat.le_refl _) (.cells #[.string m, .string t, .int .i64 k, .int .i64 n, .string r, .slice A len cap] 24))
  have KH := Lib.hid (Blk.new w #[.string m, .string t, .int .i64 k, .int .i64 n, .string r, .slice A len cap] 24)
  clear hS
  subst hsh
  have k0 := KH.out.cell 0
  have k1 := KH.out.cell 1
  have k2 := KH.out.cell 2
  have k3 := KH.out.cell 3
  have k4 := KH.out.cell 4
  have k5 := KH.out.cell 5
  simp at k0 k1 k2 k3 k4 k5
  go_enter Tryz.func3, Tryz.ntmps3
  go_wp2_with fail
  clear k0 k1 k2 k3 k4 k5
  refine (HS.out _ B.out).mono ?_
  rintro e1 w1 ⟨rfl, hb⟩
  replace B := Lib.hid (B.out.trans (hb.mono B.out.size))
  replace KH := Lib.hid (KH.out.call hb)
  clear hb
  go_wp2_with fail
  refine (HLV.out _).mono ?_
  rintro e9 w9 ⟨rfl, hb⟩
  replace B := Lib.hid (B.out.trans (hb.mono B.out.size))
  clear hb
  go_wp2_with fail
  go_ret
  exact ⟨rfl, B.out⟩
set_option maxRecDepth 100000 in
set_option maxHeartbeats 4000000 in
theorem frs_short (m t r : ByteArray) (k n : Int) (method : ByteArray) (A : Option Addr) (len cap : Nat) (l : List Fd) (w : World) (sh : Bool)
    (hS : ∀ W, Below w.heap.size w W → Calls Tryz.prog 7 #[.agg #[.string m, .string t, .int .i64 k, .int .i64 n, .string r, .slice A len cap]] W fun e w' => e = .returned (.bool sh) ∧ Below W.heap.size W w')
    (hsh : sh = false) :
    Calls Tryz.prog 4 #[.agg #[.string m, .string t, .int .i64 k, .int .i64 n, .string r, .slice A len cap], .string method] w fun e w' => e = .returned (.bool true) ∧ Below w.heap.size w w' := by
  have HS := Lib.hid hS
  have HLV := Lib.hid (fun (W : World) => frlives_any W)
  have B := Lib.hid ((Below.refl w.heap.size w).alloc (Nat.le_refl _) (.cells #[.string m, .string t, .int .i64 k, .int .i64 n, .string r, .slice A len cap] 24))
  have KH := Lib.hid (Blk.new w #[.string m, .string t, .int .i64 k, .int .i64 n, .string r, .slice A len cap] 24)
  clear hS
  subst hsh
  have k0 := KH.out.cell 0
  have k1 := KH.out.cell 1
  have k2 := KH.out.cell 2
  have k3 := KH.out.cell 3
  have k4 := KH.out.cell 4
  have k5 := KH.out.cell 5
  simp at k0 k1 k2 k3 k4 k5
  go_enter Tryz.func4, Tryz.ntmps4
  go_wp2_with fail
  clear k0 k1 k2 k3 k4 k5
  refine (HS.out _ B.out).mono ?_
  rintro e1 w1 ⟨rfl, hb⟩
  replace B := Lib.hid (B.out.trans (hb.mono B.out.size))
  replace KH := Lib.hid (KH.out.call hb)
  clear hb
  go_wp2_with fail
  refine (HLV.out _).mono ?_
  rintro e9 w9 ⟨rfl, hb⟩
  replace B := Lib.hid (B.out.trans (hb.mono B.out.size))
  clear hb
  go_wp2_with fail
  go_ret
  exact ⟨rfl, B.out⟩
set_option maxRecDepth 100000 in
set_option maxHeartbeats 4000000 in
theorem frs_long (m t r : ByteArray) (k n : Int) (method : ByteArray) (A : Option Addr) (len cap : Nat) (l : List Fd) (w : World) (sh : Bool)
    (hS : ∀ W, Below w.heap.size w W → Calls Tryz.prog 7 #[.agg #[.string m, .string t, .int .i64 k, .int .i64 n, .string r, .slice A len cap]] W fun e w' => e = .returned (.bool sh) ∧ Below W.heap.size W w')
    (hsh : sh = true) (hm : 100 < method.size) :
    Calls Tryz.prog 4 #[.agg #[.string m, .string t, .int .i64 k, .int .i64 n, .string r, .slice A len cap], .string method] w fun e w' => e = .returned (.bool true) ∧ Below w.heap.size w w' := by
  have HS := Lib.hid hS
  have HLV := Lib.hid (fun (W : World) => frlives_any W)
  have B := Lib.hid ((Below.refl w.heap.size w).alloc (Nat.le_refl _) (.cells #[.string m, .string t, .int .i64 k, .int .i64 n, .string r, .slice A len cap] 24))
  have KH := Lib.hid (Blk.new w #[.string m, .string t, .int .i64 k, .int .i64 n, .string r, .slice A len cap] 24)
  clear hS
  subst hsh
  have o1 : decide ((100 : Int) < (method.size : Int)) = true := decide_eq_true (by omega)
  have o2 : decide (100 < method.size) = true := decide_eq_true hm
  clear hm
  have k0 := KH.out.cell 0
  have k1 := KH.out.cell 1
  have k2 := KH.out.cell 2
  have k3 := KH.out.cell 3
  have k4 := KH.out.cell 4
  have k5 := KH.out.cell 5
  simp at k0 k1 k2 k3 k4 k5
  go_enter Tryz.func4, Tryz.ntmps4
  go_wp2_with fail
  clear k0 k1 k2 k3 k4 k5
  refine (HS.out _ B.out).mono ?_
  rintro e1 w1 ⟨rfl, hb⟩
  replace B := Lib.hid (B.out.trans (hb.mono B.out.size))
  replace KH := Lib.hid (KH.out.call hb)
  clear hb
  go_wp2_with fail
  refine (HLV.out _).mono ?_
  rintro e9 w9 ⟨rfl, hb⟩
  replace B := Lib.hid (B.out.trans (hb.mono B.out.size))
  clear hb
  go_wp2_with fail
  go_ret
  exact ⟨rfl, B.out⟩
set_option maxRecDepth 100000 in
set_option maxHeartbeats 4000000 in
theorem frq_main (m t r : ByteArray) (k n : Int) (A : Option Addr) (len cap : Nat) (l : List Fd) (w : World) (sh : Bool)
    (hS : ∀ W, Below w.heap.size w W → Calls Tryz.prog 7 #[.agg #[.string m, .string t, .int .i64 k, .int .i64 n, .string r, .slice A len cap]] W fun e w' => e = .returned (.bool sh) ∧ Below W.heap.size W w')
    (hsh : sh = true) (hF : Flds w (.slice A len cap) l) (hl : l.length ≤ 40) (hg : ∀ g ∈ l, g.1.size ≤ 1000 ∧ g.2.size ≤ 1000) :
    Calls Tryz.prog 3 #[.agg #[.string m, .string t, .int .i64 k, .int .i64 n, .string r, .slice A len cap]] w fun e w' => e = .returned (.bool true) ∧ Below w.heap.size w w' := by
  have HS := Lib.hid hS
  have HLV := Lib.hid (fun (W : World) => frlives_any W)
  have B := Lib.hid ((Below.refl w.heap.size w).alloc (Nat.le_refl _) (.cells #[.string m, .string t, .int .i64 k, .int .i64 n, .string r, .slice A len cap] 24))
  have KH := Lib.hid (Blk.new w #[.string m, .string t, .int .i64 k, .int .i64 n, .string r, .slice A len cap] 24)
  clear hS
  subst hsh
  have F := Lib.hid (hF.below B.out)
  have HI := Lib.hid (fun (W : World) (hW : Flds W (.slice A len cap) l) => request_fr_any m t r k n (.slice A len cap) l W hW (fdsOk_few (by omega) hg))
  have HRf := Lib.hid (fun (W : World) (hW : Flds W (.slice A len cap) l) => rrequest_any m t r k n (.slice A len cap) l W hW (fdsR_few hl hg))
  obtain ⟨q1, q2, q3, hq⟩ : ∃ q1 q2 q3, reqP l k = (q1, q2, q3) := ⟨_, _, _, rfl⟩
  rw [hq] at HI HRf
  clear hF hl hg hq
  have k0 := KH.out.cell 0
  have k1 := KH.out.cell 1
  have k2 := KH.out.cell 2
  have k3 := KH.out.cell 3
  have k4 := KH.out.cell 4
  have k5 := KH.out.cell 5
  simp at k0 k1 k2 k3 k4 k5
  go_enter Tryz.func3, Tryz.ntmps3
  go_wp2_with fail
  clear k0 k1 k2 k3 k4 k5
  refine (HS.out _ B.out).mono ?_
  rintro e1 w1 ⟨rfl, hb⟩
  replace F := Lib.hid (F.out.below hb)
  replace B := Lib.hid (B.out.trans (hb.mono B.out.size))
  replace KH := Lib.hid (KH.out.call hb)
  clear hb
  have k0 := KH.out.cell 0
  have k1 := KH.out.cell 1
  have k2 := KH.out.cell 2
  have k3 := KH.out.cell 3
  have k4 := KH.out.cell 4
  have k5 := KH.out.cell 5
  simp at k0 k1 k2 k3 k4 k5
  go_wp2_with fail
  clear k0 k1 k2 k3 k4 k5
  refine (HI.out _ F.out).mono ?_
  rintro e2 w2 ⟨rfl, hb⟩
  replace F := Lib.hid ((F.out.below hb).below ((Below.refl _ _).alloc (Nat.le_refl _) (.cells #[.int .i64 q1, .int .i64 q2] 28)))
  replace B := Lib.hid ((B.out.trans (hb.mono B.out.size)).alloc (Nat.le_trans B.out.size hb.size) (.cells #[.int .i64 q1, .int .i64 q2] 28))
  replace KH := Lib.hid ((KH.out.call hb).alloc (.cells #[.int .i64 q1, .int .i64 q2] 28))
  have KX := Lib.hid (Blk.new w2 #[.int .i64 q1, .int .i64 q2] 28)
  clear hb
  have k0 := KH.out.cell 0
  have k1 := KH.out.cell 1
  have k2 := KH.out.cell 2
  have k3 := KH.out.cell 3
  have k4 := KH.out.cell 4
  have k5 := KH.out.cell 5
  simp at k0 k1 k2 k3 k4 k5
  go_wp2_with fail
  clear k0 k1 k2 k3 k4 k5
  refine (HRf.out _ F.out).mono ?_
  rintro e3 w3 ⟨rfl, hb⟩
  replace F := Lib.hid ((F.out.below hb).below ((Below.refl _ _).alloc (Nat.le_refl _) (.cells #[.int .i64 q1, .int .i64 q2] 28)))
  replace B := Lib.hid ((B.out.trans (hb.mono B.out.size)).alloc (Nat.le_trans B.out.size hb.size) (.cells #[.int .i64 q1, .int .i64 q2] 28))
  replace KH := Lib.hid ((KH.out.call hb).alloc (.cells #[.int .i64 q1, .int .i64 q2] 28))
  replace KX := Lib.hid ((KX.out.call hb).alloc (.cells #[.int .i64 q1, .int .i64 q2] 28))
  have KY := Lib.hid (Blk.new w3 #[.int .i64 q1, .int .i64 q2] 28)
  clear hb
  have x0 := KX.out.cell 0
  have x1 := KX.out.cell 1
  have y0 := KY.out.cell 0
  have y1 := KY.out.cell 1
  have k3 := KH.out.cell 3
  simp at x0 x1 y0 y1 k3
  go_wp2_with fail
  refine (HLV.out _).mono ?_
  rintro e9 w9 ⟨rfl, hb⟩
  replace B := Lib.hid (B.out.trans (hb.mono B.out.size))
  clear hb
  go_wp2_with fail
  go_ret
  exact ⟨rfl, B.out⟩
set_option maxRecDepth 100000 in
set_option maxHeartbeats 4000000 in
theorem frs_main (m t r : ByteArray) (k n : Int) (method : ByteArray) (A : Option Addr) (len cap : Nat) (l : List Fd) (w : World) (sh : Bool)
    (hS : ∀ W, Below w.heap.size w W → Calls Tryz.prog 7 #[.agg #[.string m, .string t, .int .i64 k, .int .i64 n, .string r, .slice A len cap]] W fun e w' => e = .returned (.bool sh) ∧ Below W.heap.size W w')
    (hsh : sh = true) (hF : Flds w (.slice A len cap) l) (hl : l.length ≤ 40) (hg : ∀ g ∈ l, g.1.size ≤ 1000 ∧ g.2.size ≤ 1000) (hm : method.size ≤ 100) :
    Calls Tryz.prog 4 #[.agg #[.string m, .string t, .int .i64 k, .int .i64 n, .string r, .slice A len cap], .string method] w fun e w' => e = .returned (.bool true) ∧ Below w.heap.size w w' := by
  have HS := Lib.hid hS
  have HLV := Lib.hid (fun (W : World) => frlives_any W)
  have B := Lib.hid ((Below.refl w.heap.size w).alloc (Nat.le_refl _) (.cells #[.string m, .string t, .int .i64 k, .int .i64 n, .string r, .slice A len cap] 24))
  have KH := Lib.hid (Blk.new w #[.string m, .string t, .int .i64 k, .int .i64 n, .string r, .slice A len cap] 24)
  clear hS
  subst hsh
  have F := Lib.hid (hF.below B.out)
  have HI := Lib.hid (fun (W : World) (hW : Flds W (.slice A len cap) l) => response_any m t r k n (.slice A len cap) l method W hW (fdsOk_few (by omega) hg))
  have HRf := Lib.hid (fun (W : World) (hW : Flds W (.slice A len cap) l) => rresponse_any m t r k n (.slice A len cap) l method W hW (fdsR_few hl hg))
  obtain ⟨q1, q2, q3, hq⟩ : ∃ q1 q2 q3, respP l k n method = (q1, q2, q3) := ⟨_, _, _, rfl⟩
  rw [hq] at HI HRf
  have HB1 := Lib.hid (fun (W : World) => bodiless_same n method W)
  have HB2 := Lib.hid (fun (W : World) => rbodiless_any n method W)
  obtain ⟨bd, hbd⟩ : ∃ b, b = bodilessP n method := ⟨_, rfl⟩
  rw [← hbd] at HB1 HB2
  have o1 : decide ((100 : Int) < (method.size : Int)) = false := decide_eq_false (by omega)
  have o2 : decide (100 < method.size) = false := decide_eq_false (by omega)
  clear hbd hm
  clear hF hl hg hq
  have k0 := KH.out.cell 0
  have k1 := KH.out.cell 1
  have k2 := KH.out.cell 2
  have k3 := KH.out.cell 3
  have k4 := KH.out.cell 4
  have k5 := KH.out.cell 5
  simp at k0 k1 k2 k3 k4 k5
  go_enter Tryz.func4, Tryz.ntmps4
  go_wp2_with fail
  clear k0 k1 k2 k3 k4 k5
  refine (HS.out _ B.out).mono ?_
  rintro e1 w1 ⟨rfl, hb⟩
  replace F := Lib.hid (F.out.below hb)
  replace B := Lib.hid (B.out.trans (hb.mono B.out.size))
  replace KH := Lib.hid (KH.out.call hb)
  clear hb
  have k0 := KH.out.cell 0
  have k1 := KH.out.cell 1
  have k2 := KH.out.cell 2
  have k3 := KH.out.cell 3
  have k4 := KH.out.cell 4
  have k5 := KH.out.cell 5
  simp at k0 k1 k2 k3 k4 k5
  go_wp2_with fail
  clear k0 k1 k2 k3 k4 k5
  refine (HI.out _ F.out).mono ?_
  rintro e2 w2 ⟨rfl, hb⟩
  replace F := Lib.hid ((F.out.below hb).below ((Below.refl _ _).alloc (Nat.le_refl _) (.cells #[.int .i64 q1, .int .i64 q2] 28)))
  replace B := Lib.hid ((B.out.trans (hb.mono B.out.size)).alloc (Nat.le_trans B.out.size hb.size) (.cells #[.int .i64 q1, .int .i64 q2] 28))
  replace KH := Lib.hid ((KH.out.call hb).alloc (.cells #[.int .i64 q1, .int .i64 q2] 28))
  have KX := Lib.hid (Blk.new w2 #[.int .i64 q1, .int .i64 q2] 28)
  clear hb
  have k0 := KH.out.cell 0
  have k1 := KH.out.cell 1
  have k2 := KH.out.cell 2
  have k3 := KH.out.cell 3
  have k4 := KH.out.cell 4
  have k5 := KH.out.cell 5
  simp at k0 k1 k2 k3 k4 k5
  go_wp2_with fail
  clear k0 k1 k2 k3 k4 k5
  refine (HRf.out _ F.out).mono ?_
  rintro e3 w3 ⟨rfl, hb⟩
  replace F := Lib.hid ((F.out.below hb).below ((Below.refl _ _).alloc (Nat.le_refl _) (.cells #[.int .i64 q1, .int .i64 q2] 28)))
  replace B := Lib.hid ((B.out.trans (hb.mono B.out.size)).alloc (Nat.le_trans B.out.size hb.size) (.cells #[.int .i64 q1, .int .i64 q2] 28))
  replace KH := Lib.hid ((KH.out.call hb).alloc (.cells #[.int .i64 q1, .int .i64 q2] 28))
  replace KX := Lib.hid ((KX.out.call hb).alloc (.cells #[.int .i64 q1, .int .i64 q2] 28))
  have KY := Lib.hid (Blk.new w3 #[.int .i64 q1, .int .i64 q2] 28)
  clear hb
  have x0 := KX.out.cell 0
  have x1 := KX.out.cell 1
  have y0 := KY.out.cell 0
  have y1 := KY.out.cell 1
  have k3 := KH.out.cell 3
  simp at x0 x1 y0 y1 k3
  go_wp2_with fail
  refine wp_region_drew_tail 20 (by kernel_rfl) (by kernel_rfl) ?_
  simp only [List.take_succ_cons, List.take_zero, List.drop_succ_cons, List.drop_zero]
  repeat go_big_quiet_step (first | (go_at_call 13; exact Calls.quiet_of_same ((HB1.out _).mono fun _ _ h => ⟨h.1, h.2.symm⟩)) | (go_at_call 14; exact Calls.quiet_of_same ((HB2.out _).mono fun _ _ h => ⟨h.1, h.2.symm⟩)))
  refine wpQuiet_nil ?_
  rintro _ ⟨nq, rfl⟩
  replace B := Lib.hid (below_drewM B.out nq)
  go_wp2_with fail
  refine (HLV.out _).mono ?_
  rintro e9 w9 ⟨rfl, hb⟩
  replace B := Lib.hid (B.out.trans (hb.mono B.out.size))
  clear hb
  go_wp2_with fail
  go_ret
  exact ⟨rfl, B.out⟩
theorem framingRequests_any (m t r : ByteArray) (k n : Int) {A : Option Addr} {len cap : Nat} {l : List Fd} {w : World} (h : Fds w A len l) (hl : len ≤ 9223372036854775807) :
    Calls Tryz.prog 3 #[.agg #[.string m, .string t, .int .i64 k, .int .i64 n, .string r, .slice A len cap]] w fun e w' => e = .returned (.bool true) ∧ Below w.heap.size w w' := by
  have hS : ∀ W, Below w.heap.size w W → Calls Tryz.prog 7 #[.agg #[.string m, .string t, .int .i64 k, .int .i64 n, .string r, .slice A len cap]] W fun e w' => e = .returned (.bool (shortP m t r l)) ∧ Below W.heap.size W w' := fun W hW => short_any (cap := cap) m t r k n (h.below hW) hl
  cases hs : shortP m t r l with
  | false => rw [hs] at hS; exact frq_short m t r k n A len cap l w false hS rfl
  | true =>
    rw [hs] at hS
    obtain ⟨h1, h2, _⟩ := shortP_ok hs
    exact frq_main m t r k n A len cap l w true hS rfl (flds_of h) h1 h2
theorem framingResponses_any (m t r : ByteArray) (k n : Int) (method : ByteArray) {A : Option Addr} {len cap : Nat} {l : List Fd} {w : World} (h : Fds w A len l) (hl : len ≤ 9223372036854775807) :
    Calls Tryz.prog 4 #[.agg #[.string m, .string t, .int .i64 k, .int .i64 n, .string r, .slice A len cap], .string method] w fun e w' => e = .returned (.bool true) ∧ Below w.heap.size w w' := by
  have hS : ∀ W, Below w.heap.size w W → Calls Tryz.prog 7 #[.agg #[.string m, .string t, .int .i64 k, .int .i64 n, .string r, .slice A len cap]] W fun e w' => e = .returned (.bool (shortP m t r l)) ∧ Below W.heap.size W w' := fun W hW => short_any (cap := cap) m t r k n (h.below hW) hl
  cases hs : shortP m t r l with
  | false => rw [hs] at hS; exact frs_short m t r k n method A len cap l w false hS rfl
  | true =>
    rw [hs] at hS
    obtain ⟨h1, h2, _⟩ := shortP_ok hs
    by_cases hm : method.size ≤ 100
    · exact frs_main m t r k n method A len cap l w true hS rfl (flds_of h) h1 h2 hm
    · exact frs_long m t r k n method A len cap l w true hS rfl (by omega)
end Go.Proofs.YtcpjkemjpgggcaaGreatDoor

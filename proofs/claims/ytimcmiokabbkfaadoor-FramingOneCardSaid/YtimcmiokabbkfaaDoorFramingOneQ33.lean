/- Texts packed for one claim, 33 of 35: FoneW FoneLaw. -/
import Derived.Test.YtimcmiokabbkfaaDoorFramingOneQ32
import Derived.Deep.DeepCutAuto
set_option linter.unusedSimpArgs false
set_option linter.unusedVariables false
-- FoneW
namespace Go.Proofs.YtimcmiokabbkfaaDoor
open Go.RowKit
/-- Two heads of one row, behind w4. -/
def TwoHd (w4 : World) (R : Array Value) (v9 v10 : Value) (W : World) : Prop := ∃ b9 b10, v9 = .pointer (some ⟨b9, 0, none⟩) ∧ v10 = .pointer (some ⟨b10, 0, none⟩) ∧ b9 ≠ b10 ∧ w4.heap.size ≤ b9 ∧ w4.heap.size ≤ b10 ∧ Blk W b9 R 24 ∧ Blk W b10 R 24 ∧ Below w4.heap.size w4 W
theorem touch_set6 (w : World) (g : Nat) (a b c d e f : Value) : Touch (fun j => j = g) w (set6 w g a b c d e f) := (((((((Touch.refl (fun j => j = g) w).setCell (p := ⟨g, 0, none⟩) rfl a).setCell (p := ⟨g, 1, none⟩) rfl b).setCell (p := ⟨g, 2, none⟩) rfl c).setCell (p := ⟨g, 3, none⟩) rfl d).setCell (p := ⟨g, 4, none⟩) rfl e).setCell (p := ⟨g, 5, none⟩) rfl f)
set_option maxRecDepth 100000 in
set_option maxHeartbeats 8000000 in
theorem fone_main (m t r : ByteArray) (k n a b : Int) (A : Option Addr) (len cap : Nat) (l : List Fd) (w : World)
    (hS : Calls Tryd.prog 5 #[.agg #[.string m, .string t, .int .i64 k, .int .i64 n, .string r, .slice A len cap]] (w.alloc (.cells #[.string m, .string t, .int .i64 k, .int .i64 n, .string r, .slice A len cap] 24)) fun e w' => e = .returned (.bool true) ∧ Below (w.alloc (.cells #[.string m, .string t, .int .i64 k, .int .i64 n, .string r, .slice A len cap] 24)).heap.size (w.alloc (.cells #[.string m, .string t, .int .i64 k, .int .i64 n, .string r, .slice A len cap] 24)) w')
    (hF : Flds w (.slice A len cap) l) (hl : l.length ≤ 40) (hg : ∀ g ∈ l, g.1.size ≤ 1000 ∧ g.2.size ≤ 1000)
    (h1 : decide (a < 0) = false) (h2 : decide (2147483647 < a) = false) (h3 : decide (b < 0) = false) (h4 : decide (2147483647 < b) = false) (h5 : (a == b) = false) :
    Calls Tryd.prog 3 #[.agg #[.string m, .string t, .int .i64 k, .int .i64 n, .string r, .slice A len cap], .int .i64 a, .int .i64 b] w fun e w' => e = .returned (.bool true) ∧ Below w.heap.size w w' := by
  have HS := Lib.hid hS
  have HLV := Lib.hid (fun (W : World) => frlives_any W)
  have HB0 := Lib.hid ((Below.refl w.heap.size w).alloc (Nat.le_refl _) (.cells #[.string m, .string t, .int .i64 k, .int .i64 n, .string r, .slice A len cap] 24))
  have KH0 := Lib.hid (Blk.new w #[.string m, .string t, .int .i64 k, .int .i64 n, .string r, .slice A len cap] 24)
  have HF0 := Lib.hid (hF.below HB0.out)
  have ha0 : 0 ≤ a := Int.not_lt.1 (of_decide_eq_false h1)
  have ha1 : a ≤ 2147483647 := Int.not_lt.1 (of_decide_eq_false h2)
  have hb0 : 0 ≤ b := Int.not_lt.1 (of_decide_eq_false h3)
  have hb1 : b ≤ 2147483647 := Int.not_lt.1 (of_decide_eq_false h4)
  have hab : a ≠ b := by rw [beq_eq_false_iff_ne] at h5; exact h5
  -- the three rows of fields
  obtain ⟨N, hN⟩ : ∃ N, N = l.filter (fun x => !delP [teB, clB] x) := ⟨_, rfl⟩
  have hN1 : allB N teB = [] := by rw [hN]; exact allB_gone (fun x hx => by unfold delP; rw [List.any_cons]; rw [decide_eq_true hx.symm]; rfl)
  have hN2 : allB N clB = [] := by rw [hN]; exact allB_gone (fun x hx => by unfold delP; rw [List.any_cons, List.any_cons]; rw [decide_eq_true hx.symm]; simp)
  have hNl : N.length ≤ 40 := by rw [hN]; exact Nat.le_trans (List.length_filter_le _ _) hl
  have hNg : ∀ g ∈ N, g.1.size ≤ 1000 ∧ g.2.size ≤ 1000 := fun g hgm => hg g (by rw [hN] at hgm; exact (List.mem_filter.1 hgm).1)
  have hta := textB_size a (by omega) (by omega)
  have htb := textB_size b (by omega) (by omega)
  have s2 := two_said hN1 hN2 ha0 ha1 hb0 hb1 hab k
  have s3 := both_said hN1 hN2 (a := a) k
  have ok2 : FdsOk (N ++ [(clB, textB a)] ++ [(cl2B, textB b)]) := by
    refine fdsOk_few (by simp; omega) (fun g hgm => ?_)
    simp only [List.mem_append, List.mem_singleton] at hgm
    rcases hgm with (hgm | rfl) | rfl
    · exact hNg g hgm
    · exact ⟨by show clB.size ≤ 1000; decide, by show (textB a).size ≤ 1000; omega⟩
    · exact ⟨by show cl2B.size ≤ 1000; decide, by show (textB b).size ≤ 1000; omega⟩
  have ok3 : FdsOk (N ++ [(clB, textB a)] ++ [(te2B, chkB)]) := by
    refine fdsOk_few (by simp; omega) (fun g hgm => ?_)
    simp only [List.mem_append, List.mem_singleton] at hgm
    rcases hgm with (hgm | rfl) | rfl
    · exact hNg g hgm
    · exact ⟨by show clB.size ≤ 1000; decide, by show (textB a).size ≤ 1000; omega⟩
    · exact ⟨by decide, by decide⟩
  have HT1 := Lib.hid (fun (W : World) => text_any a (by omega) (by omega) W)
  have HT2 := Lib.hid (fun (W : World) => text_any b (by omega) (by omega) W)
  have HWO := Lib.hid (fun (W : World) (nv : Value) (hW : Flds W (.slice A len cap) l) (hn : Strs W nv [teB, clB]) => without_any l _ nv [teB, clB] W hW hn (by omega) (fun x hx => by have := (hg x hx).1; omega) (by decide) (by decide))
  have HWA := Lib.hid (fun (W : World) (f : Value) (hW : Flds W f N) => with_any N f clB (textB a) W hW (by omega))
  have HWB := Lib.hid (fun (W : World) (f : Value) (hW : Flds W f (N ++ [(clB, textB a)])) => with_any (N ++ [(clB, textB a)]) f cl2B (textB b) W hW (by simp; omega))
  have HWC := Lib.hid (fun (W : World) (f : Value) (hW : Flds W f (N ++ [(clB, textB a)])) => with_any (N ++ [(clB, textB a)]) f te2B chkB W hW (by simp; omega))
  have HR2 := Lib.hid (fun (W : World) (f : Value) (hW : Flds W f (N ++ [(clB, textB a)] ++ [(cl2B, textB b)])) => request_fr_any m t r k n f _ W hW ok2)
  have HP2 := Lib.hid (fun (W : World) (f : Value) (hW : Flds W f (N ++ [(clB, textB a)] ++ [(cl2B, textB b)])) => response_any m t r k n f _ ⟨#[71, 69, 84]⟩ W hW ok2)
  have HR3 := Lib.hid (fun (W : World) (f : Value) (hW : Flds W f (N ++ [(clB, textB a)] ++ [(te2B, chkB)])) => request_fr_any m t r k n f _ W hW ok3)
  have HP3 := Lib.hid (fun (W : World) (f : Value) (hW : Flds W f (N ++ [(clB, textB a)] ++ [(te2B, chkB)])) => response_any m t r k n f _ ⟨#[72, 69, 65, 68]⟩ W hW ok3)
  have q2 := req_wrong s2
  have q3 := req_wrong s3
  have p2 := resp_wrong (n := n) (m := ⟨#[71, 69, 84]⟩) s2
  have p3 := resp_wrong (n := n) (m := ⟨#[72, 69, 65, 68]⟩) s3
  obtain ⟨O, hO⟩ : ∃ O, O = N ++ [(clB, textB a)] := ⟨_, rfl⟩
  rw [← hO] at HWA HWB HWC HR2 HP2 HR3 HP3 q2 q3 p2 p3
  obtain ⟨T2, hT2⟩ : ∃ T, T = O ++ [(cl2B, textB b)] := ⟨_, rfl⟩
  rw [← hT2] at HWB HR2 HP2 q2 p2
  obtain ⟨T3, hT3⟩ : ∃ T, T = O ++ [(te2B, chkB)] := ⟨_, rfl⟩
  rw [← hT3] at HWC HR3 HP3 q3 p3
  obtain ⟨R2, hR2⟩ : ∃ R, R = reqP T2 k := ⟨_, rfl⟩
  obtain ⟨P2, hP2⟩ : ∃ R, R = respP T2 k n ⟨#[71, 69, 84]⟩ := ⟨_, rfl⟩
  obtain ⟨R3, hR3⟩ : ∃ R, R = reqP T3 k := ⟨_, rfl⟩
  obtain ⟨P3, hP3⟩ : ∃ R, R = respP T3 k n ⟨#[72, 69, 65, 68]⟩ := ⟨_, rfl⟩
  rw [← hR2] at HR2 q2
  rw [← hP2] at HP2 p2
  rw [← hR3] at HR3 q3
  rw [← hP3] at HP3 p3
  obtain ⟨R21, R22, e2⟩ := R2
  obtain ⟨P21, P22, f2⟩ := P2
  obtain ⟨R31, R32, e3⟩ := R3
  obtain ⟨P31, P32, f3⟩ := P3
  dsimp only at HR2 HP2 HR3 HP3 q2 q3 p2 p3
  subst p2 p3
  obtain ⟨ta, hta2⟩ : ∃ ta, ta = textB a := ⟨_, rfl⟩
  obtain ⟨tb, htb2⟩ : ∃ tb, tb = textB b := ⟨_, rfl⟩
  rw [← hta2] at HT1 HWA
  rw [← htb2] at HT2 HWB
  rw [← hN] at HWO
  unfold teB clB at HWO
  unfold clB at HWA
  unfold cl2B at HWB
  unfold te2B chkB at HWC
  have Q2 := Lib.hid q2
  have Q3 := Lib.hid q3
  clear hta htb s2 s3 ok2 ok3 hN hN1 hN2 hNl hNg hO hT2 hT3 hR2 hP2 hR3 hP3 hS hF hl hg ha0 ha1 hb0 hb1 hab hta2 htb2 q2 q3
  go_enter Tryd.func3, Tryd.ntmps3
  go_wp2_with (go_at_call 5; refine HS.out.mono ?_; rintro e1 w1 ⟨rfl, hb⟩; have B1 := Lib.hid (HB0.out.trans (hb.mono HB0.out.size)); have KH1 := Lib.hid (KH0.out.call hb); have F1 := Lib.hid (HF0.out.below hb); clear hb; have k5 := KH1.out.cell 5; simp at k5)
  have KN := Lib.hid (Blk.new w1 #[.string ⟨#[84, 114, 97, 110, 115, 102, 101, 114, 45, 69, 110, 99, 111, 100, 105, 110, 103]⟩, .string ⟨#[67, 111, 110, 116, 101, 110, 116, 45, 76, 101, 110, 103, 116, 104]⟩] 9)
  have BN := Lib.hid ((Below.refl w1.heap.size w1).alloc (Nat.le_refl _) (.cells #[.string ⟨#[84, 114, 97, 110, 115, 102, 101, 114, 45, 69, 110, 99, 111, 100, 105, 110, 103]⟩, .string ⟨#[67, 111, 110, 116, 101, 110, 116, 45, 76, 101, 110, 103, 116, 104]⟩] 9))
  have BM := Lib.hid (B1.out.trans (BN.out.mono B1.out.size))
  have KM := Lib.hid (KH1.out.alloc (.cells #[.string ⟨#[84, 114, 97, 110, 115, 102, 101, 114, 45, 69, 110, 99, 111, 100, 105, 110, 103]⟩, .string ⟨#[67, 111, 110, 116, 101, 110, 116, 45, 76, 101, 110, 103, 116, 104]⟩] 9))
  refine (HWO.out _ (.slice (some ⟨w1.heap.size, 0, none⟩) 2 2) (F1.out.below BN.out) ⟨_, 2, rfl, fun i hi => ⟨w1.heap.size, 0, rfl, ?_⟩⟩).mono ?_
  · have h2 : i = 0 ∨ i = 1 := by simp at hi; omega
    rcases h2 with rfl | rfl
    · exact KN.out.cell 0
    · exact KN.out.cell 1
  rintro e2 w2 ⟨v2, rfl, ho, hb⟩
  have B2 := Lib.hid (BM.out.trans (hb.mono BM.out.size))
  have KH2 := Lib.hid (KM.out.call hb)
  have F2 := Lib.hid ho.flds
  clear ho hb KN
  go_wp2_with fail
  refine (HT1.out _).mono ?_
  rintro e3 w3 ⟨rfl, hb⟩
  have B3 := Lib.hid (B2.out.trans (hb.mono B2.out.size))
  have KH3 := Lib.hid (KH2.out.call hb)
  have F3 := Lib.hid (F2.out.below hb)
  clear hb
  go_wp2_with fail
  refine (HWA.out _ _ F3.out).mono ?_
  rintro e4 w4 ⟨v4, rfl, ho, hb⟩
  have B4 := Lib.hid (B3.out.trans (hb.mono B3.out.size))
  have KH4 := Lib.hid (KH3.out.call hb)
  have F4 := Lib.hid ho.flds
  clear ho hb
  have k0 := KH4.out.cell 0
  have k1 := KH4.out.cell 1
  have k2 := KH4.out.cell 2
  have k3 := KH4.out.cell 3
  have k4 := KH4.out.cell 4
  have k5 := KH4.out.cell 5
  simp at k0 k1 k2 k3 k4 k5
  go_wp2_with fail
  go_cut [9, 10] (fun v9 v10 W => TwoHd w4 #[.string m, .string t, .int .i64 k, .int .i64 n, .string r, .slice A len cap] v9 v10 W)
  case first =>
    have HK4 := KH4
    refine wp_region_at (S := fun v => Below w4.heap.size w4 v) (by kernel_rfl) ?_
    rintro V0 hV0
    have h0 : Below w4.heap.size w4 V0 := by rw [hV0]; exact (Below.refl _ _).drew
    clear hV0 k0 k1 k2 k3 k4 k5
    refine wpAnyH_take (i := 0) (v := Value.agg #[.string m, .string t, .int .i64 k, .int .i64 n, .string r, .slice A len cap]) rfl (by kernel_rfl) (by kernel_rfl) (by kernel_rfl) (fun _ _ _ h => h) (Or.inl ⟨by rfl, ?hy0⟩) h0 ?rest0
    case hy0 =>
      intro w' hSw
      have q0 := (HK4.out.call hSw).cell 0
      have q1 := (HK4.out.call hSw).cell 1
      have q2 := (HK4.out.call hSw).cell 2
      have q3 := (HK4.out.call hSw).cell 3
      have q4 := (HK4.out.call hSw).cell 4
      have q5 := (HK4.out.call hSw).cell 5
      simp at q0 q1 q2 q3 q4 q5
      clear hSw
      go_simp
    (try simp only [Act.put, List.setIfInBounds_toArray, List.set_cons_zero, List.set_cons_succ])
    refine wpAnyH_take (i := 1) (v := Value.agg #[.string m, .string t, .int .i64 k, .int .i64 n, .string r, .slice A len cap]) rfl (by kernel_rfl) (by kernel_rfl) (by kernel_rfl) (fun _ _ _ h => h) (Or.inl ⟨by rfl, ?hy1⟩) h0 ?rest1
    case hy1 =>
      intro w' hSw
      have q0 := (HK4.out.call hSw).cell 0
      have q1 := (HK4.out.call hSw).cell 1
      have q2 := (HK4.out.call hSw).cell 2
      have q3 := (HK4.out.call hSw).cell 3
      have q4 := (HK4.out.call hSw).cell 4
      have q5 := (HK4.out.call hSw).cell 5
      simp at q0 q1 q2 q3 q4 q5
      clear hSw
      go_simp
    (try simp only [Act.put, List.setIfInBounds_toArray, List.set_cons_zero, List.set_cons_succ])
    refine wpAnyH_ready (rs := [2, 3]) (by kernel_rfl) (by simp) ?_
    refine AllReadyH.cons rfl (fun K hK => ?_) (AllReadyH.cons rfl (fun K hK => ?_) AllReadyH.nil)
    · go_simp
      obtain ⟨b9, hb9⟩ : ∃ n, n = V0.heap.size := ⟨_, rfl⟩
      rw [← hb9]
      obtain ⟨V1, hW⟩ : ∃ X, X = V0.alloc (.cells #[.string ⟨#[]⟩, .string ⟨#[]⟩, .int .i64 0, .int .i64 0, .string ⟨#[]⟩, .slice none 0 0] 24) := ⟨_, rfl⟩
      rw [← hW]
      have h1 : Below w4.heap.size w4 V1 := by rw [hW]; exact h0.alloc h0.size _
      have Kb9 : Blk V1 b9 #[.string ⟨#[]⟩, .string ⟨#[]⟩, .int .i64 0, .int .i64 0, .string ⟨#[]⟩, .slice none 0 0] 24 := by rw [hW, hb9]; exact Blk.new _ _ _
      have gb9 : w4.heap.size ≤ b9 := by rw [hb9]; exact h0.size
      have s1 : Hid (V1.heap.size = b9 + 1) := by show _ = _; rw [hW, hb9]; simp
      clear hW hb9
      refine hK _ _ h1 (fun _ => ?_)
      clear hK K
      (try simp only [Act.put, List.setIfInBounds_toArray, List.set_cons_zero, List.set_cons_succ])
      refine wpAnyH_ready (rs := [3]) (by kernel_rfl) (by simp) ?_
      refine AllReadyH.cons rfl (fun K hK => ?_) AllReadyH.nil
      · go_simp
        obtain ⟨b10, hb10⟩ : ∃ n, n = V1.heap.size := ⟨_, rfl⟩
        rw [← hb10]
        obtain ⟨V2, hW⟩ : ∃ X, X = V1.alloc (.cells #[.string ⟨#[]⟩, .string ⟨#[]⟩, .int .i64 0, .int .i64 0, .string ⟨#[]⟩, .slice none 0 0] 24) := ⟨_, rfl⟩
        rw [← hW]
        have h3 : Below w4.heap.size w4 V2 := by rw [hW]; exact h1.alloc h1.size _
        have Kb10 : Blk V2 b10 #[.string ⟨#[]⟩, .string ⟨#[]⟩, .int .i64 0, .int .i64 0, .string ⟨#[]⟩, .slice none 0 0] 24 := by rw [hW, hb10]; exact Blk.new _ _ _
        replace Kb9 : Blk V2 b9 #[.string ⟨#[]⟩, .string ⟨#[]⟩, .int .i64 0, .int .i64 0, .string ⟨#[]⟩, .slice none 0 0] 24 := by rw [hW]; exact Kb9.alloc _
        have gb10 : w4.heap.size ≤ b10 := by rw [hb10]; exact h1.size
        have hne : b9 ≠ b10 := by have := s1.out; omega
        clear hW hb10 s1
        refine hK _ _ h3 (fun _ => ?_)
        clear hK K
        (try simp only [Act.put, List.setIfInBounds_toArray, List.set_cons_zero, List.set_cons_succ])
        refine wpAnyH_ready (rs := [4]) (by kernel_rfl) (by simp) ?_
        refine AllReadyH.cons rfl (fun K hK => ?_) AllReadyH.nil
        have cz0 := Kb9.cell 0
        have cz1 := Kb9.cell 1
        have cz2 := Kb9.cell 2
        have cz3 := Kb9.cell 3
        have cz4 := Kb9.cell 4
        have cz5 := Kb9.cell 5
        simp at cz0 cz1 cz2 cz3 cz4 cz5
        have fz := Kb9.froz
        go_simp
        clear cz0 cz1 cz2 cz3 cz4 cz5 fz
        obtain ⟨V3, hW⟩ : ∃ X, X = set6 V2 b9 (.string m) (.string t) (.int .i64 k) (.int .i64 n) (.string r) (.slice A len cap) := ⟨_, rfl⟩
        have h4 : Below w4.heap.size w4 V3 := by rw [hW]; exact below_set6 h3 gb9 _ _ _ _ _ _
        replace Kb10 := Kb10.touch (P := fun j => j = b9) (show Touch (fun j => j = b9) V2 V3 by rw [hW]; exact touch_set6 V2 b9 _ _ _ _ _ _) (by exact fun e => hne e.symm)
        replace Kb9 : Blk V3 b9 #[.string m, .string t, .int .i64 k, .int .i64 n, .string r, .slice A len cap] 24 := by rw [hW]; exact blk_set6 Kb9 _ _ _ _ _ _
        rw [show (((((((V2.setCell ⟨b9, 0, none⟩ (.string m)).setCell ⟨b9, 1, none⟩ (.string t)).setCell ⟨b9, 2, none⟩ (.int .i64 k)).setCell ⟨b9, 3, none⟩ (.int .i64 n)).setCell ⟨b9, 4, none⟩ (.string r)).setCell ⟨b9, 5, none⟩ (.slice A len cap))) = V3 from hW.symm]
        clear hW
        refine hK _ _ h4 (fun _ => ?_)
        clear hK K
        (try simp only [Act.put, List.setIfInBounds_toArray, List.set_cons_zero, List.set_cons_succ])
        refine wpAnyH_ready (rs := [5]) (by kernel_rfl) (by simp) ?_
        refine AllReadyH.cons rfl (fun K hK => ?_) AllReadyH.nil
        have cz0 := Kb10.cell 0
        have cz1 := Kb10.cell 1
        have cz2 := Kb10.cell 2
        have cz3 := Kb10.cell 3
        have cz4 := Kb10.cell 4
        have cz5 := Kb10.cell 5
        simp at cz0 cz1 cz2 cz3 cz4 cz5
        have fz := Kb10.froz
        go_simp
        clear cz0 cz1 cz2 cz3 cz4 cz5 fz
        obtain ⟨V4, hW⟩ : ∃ X, X = set6 V3 b10 (.string m) (.string t) (.int .i64 k) (.int .i64 n) (.string r) (.slice A len cap) := ⟨_, rfl⟩
        have h5 : Below w4.heap.size w4 V4 := by rw [hW]; exact below_set6 h4 gb10 _ _ _ _ _ _
        replace Kb9 := Kb9.touch (P := fun j => j = b10) (show Touch (fun j => j = b10) V3 V4 by rw [hW]; exact touch_set6 V3 b10 _ _ _ _ _ _) (by exact hne)
        replace Kb10 : Blk V4 b10 #[.string m, .string t, .int .i64 k, .int .i64 n, .string r, .slice A len cap] 24 := by rw [hW]; exact blk_set6 Kb10 _ _ _ _ _ _
        rw [show (((((((V3.setCell ⟨b10, 0, none⟩ (.string m)).setCell ⟨b10, 1, none⟩ (.string t)).setCell ⟨b10, 2, none⟩ (.int .i64 k)).setCell ⟨b10, 3, none⟩ (.int .i64 n)).setCell ⟨b10, 4, none⟩ (.string r)).setCell ⟨b10, 5, none⟩ (.slice A len cap))) = V4 from hW.symm]
        clear hW
        refine hK _ _ h5 (fun _ => ?_)
        clear hK K
        (try simp only [Act.put, List.setIfInBounds_toArray, List.set_cons_zero, List.set_cons_succ])
        refine wpAnyH_done (by kernel_rfl) ?_ _
        go_wp2_with fail
        go_meet
        case rel => exact ⟨b9, b10, rfl, rfl, hne, gb9, gb10, Kb9, Kb10, h5⟩
    · go_simp
      obtain ⟨b10, hb10⟩ : ∃ n, n = V0.heap.size := ⟨_, rfl⟩
      rw [← hb10]
      obtain ⟨V1, hW⟩ : ∃ X, X = V0.alloc (.cells #[.string ⟨#[]⟩, .string ⟨#[]⟩, .int .i64 0, .int .i64 0, .string ⟨#[]⟩, .slice none 0 0] 24) := ⟨_, rfl⟩
      rw [← hW]
      have h1 : Below w4.heap.size w4 V1 := by rw [hW]; exact h0.alloc h0.size _
      have Kb10 : Blk V1 b10 #[.string ⟨#[]⟩, .string ⟨#[]⟩, .int .i64 0, .int .i64 0, .string ⟨#[]⟩, .slice none 0 0] 24 := by rw [hW, hb10]; exact Blk.new _ _ _
      have gb10 : w4.heap.size ≤ b10 := by rw [hb10]; exact h0.size
      have s1 : Hid (V1.heap.size = b10 + 1) := by show _ = _; rw [hW, hb10]; simp
      clear hW hb10
      refine hK _ _ h1 (fun _ => ?_)
      clear hK K
      (try simp only [Act.put, List.setIfInBounds_toArray, List.set_cons_zero, List.set_cons_succ])
      refine wpAnyH_ready (rs := [2]) (by kernel_rfl) (by simp) ?_
      refine AllReadyH.cons rfl (fun K hK => ?_) AllReadyH.nil
      · go_simp
        obtain ⟨b9, hb9⟩ : ∃ n, n = V1.heap.size := ⟨_, rfl⟩
        rw [← hb9]
        obtain ⟨V2, hW⟩ : ∃ X, X = V1.alloc (.cells #[.string ⟨#[]⟩, .string ⟨#[]⟩, .int .i64 0, .int .i64 0, .string ⟨#[]⟩, .slice none 0 0] 24) := ⟨_, rfl⟩
        rw [← hW]
        have h3 : Below w4.heap.size w4 V2 := by rw [hW]; exact h1.alloc h1.size _
        have Kb9 : Blk V2 b9 #[.string ⟨#[]⟩, .string ⟨#[]⟩, .int .i64 0, .int .i64 0, .string ⟨#[]⟩, .slice none 0 0] 24 := by rw [hW, hb9]; exact Blk.new _ _ _
        replace Kb10 : Blk V2 b10 #[.string ⟨#[]⟩, .string ⟨#[]⟩, .int .i64 0, .int .i64 0, .string ⟨#[]⟩, .slice none 0 0] 24 := by rw [hW]; exact Kb10.alloc _
        have gb9 : w4.heap.size ≤ b9 := by rw [hb9]; exact h1.size
        have hne : b9 ≠ b10 := by have := s1.out; omega
        clear hW hb9 s1
        refine hK _ _ h3 (fun _ => ?_)
        clear hK K
        (try simp only [Act.put, List.setIfInBounds_toArray, List.set_cons_zero, List.set_cons_succ])
        refine wpAnyH_ready (rs := [4]) (by kernel_rfl) (by simp) ?_
        refine AllReadyH.cons rfl (fun K hK => ?_) AllReadyH.nil
        have cz0 := Kb9.cell 0
        have cz1 := Kb9.cell 1
        have cz2 := Kb9.cell 2
        have cz3 := Kb9.cell 3
        have cz4 := Kb9.cell 4
        have cz5 := Kb9.cell 5
        simp at cz0 cz1 cz2 cz3 cz4 cz5
        have fz := Kb9.froz
        go_simp
        clear cz0 cz1 cz2 cz3 cz4 cz5 fz
        obtain ⟨V3, hW⟩ : ∃ X, X = set6 V2 b9 (.string m) (.string t) (.int .i64 k) (.int .i64 n) (.string r) (.slice A len cap) := ⟨_, rfl⟩
        have h4 : Below w4.heap.size w4 V3 := by rw [hW]; exact below_set6 h3 gb9 _ _ _ _ _ _
        replace Kb10 := Kb10.touch (P := fun j => j = b9) (show Touch (fun j => j = b9) V2 V3 by rw [hW]; exact touch_set6 V2 b9 _ _ _ _ _ _) (by exact fun e => hne e.symm)
        replace Kb9 : Blk V3 b9 #[.string m, .string t, .int .i64 k, .int .i64 n, .string r, .slice A len cap] 24 := by rw [hW]; exact blk_set6 Kb9 _ _ _ _ _ _
        rw [show (((((((V2.setCell ⟨b9, 0, none⟩ (.string m)).setCell ⟨b9, 1, none⟩ (.string t)).setCell ⟨b9, 2, none⟩ (.int .i64 k)).setCell ⟨b9, 3, none⟩ (.int .i64 n)).setCell ⟨b9, 4, none⟩ (.string r)).setCell ⟨b9, 5, none⟩ (.slice A len cap))) = V3 from hW.symm]
        clear hW
        refine hK _ _ h4 (fun _ => ?_)
        clear hK K
        (try simp only [Act.put, List.setIfInBounds_toArray, List.set_cons_zero, List.set_cons_succ])
        refine wpAnyH_ready (rs := [5]) (by kernel_rfl) (by simp) ?_
        refine AllReadyH.cons rfl (fun K hK => ?_) AllReadyH.nil
        have cz0 := Kb10.cell 0
        have cz1 := Kb10.cell 1
        have cz2 := Kb10.cell 2
        have cz3 := Kb10.cell 3
        have cz4 := Kb10.cell 4
        have cz5 := Kb10.cell 5
        simp at cz0 cz1 cz2 cz3 cz4 cz5
        have fz := Kb10.froz
        go_simp
        clear cz0 cz1 cz2 cz3 cz4 cz5 fz
        obtain ⟨V4, hW⟩ : ∃ X, X = set6 V3 b10 (.string m) (.string t) (.int .i64 k) (.int .i64 n) (.string r) (.slice A len cap) := ⟨_, rfl⟩
        have h5 : Below w4.heap.size w4 V4 := by rw [hW]; exact below_set6 h4 gb10 _ _ _ _ _ _
        replace Kb9 := Kb9.touch (P := fun j => j = b10) (show Touch (fun j => j = b10) V3 V4 by rw [hW]; exact touch_set6 V3 b10 _ _ _ _ _ _) (by exact hne)
        replace Kb10 : Blk V4 b10 #[.string m, .string t, .int .i64 k, .int .i64 n, .string r, .slice A len cap] 24 := by rw [hW]; exact blk_set6 Kb10 _ _ _ _ _ _
        rw [show (((((((V3.setCell ⟨b10, 0, none⟩ (.string m)).setCell ⟨b10, 1, none⟩ (.string t)).setCell ⟨b10, 2, none⟩ (.int .i64 k)).setCell ⟨b10, 3, none⟩ (.int .i64 n)).setCell ⟨b10, 4, none⟩ (.string r)).setCell ⟨b10, 5, none⟩ (.slice A len cap))) = V4 from hW.symm]
        clear hW
        refine hK _ _ h5 (fun _ => ?_)
        clear hK K
        (try simp only [Act.put, List.setIfInBounds_toArray, List.set_cons_zero, List.set_cons_succ])
        refine wpAnyH_done (by kernel_rfl) ?_ _
        go_wp2_with fail
        go_meet
        case rel => exact ⟨b9, b10, rfl, rfl, hne, gb9, gb10, Kb9, Kb10, h5⟩
  case rest =>
    unfold TwoHd at hcut
    obtain ⟨b9, b10, rfl, rfl, hne, g9, g10, K9, K10, hb5⟩ := hcut
    have K9a := Lib.hid K9
    have K10a := Lib.hid K10
    have D := Lib.hid hb5
    have F := Lib.hid (F4.out.below hb5)
    have G9 := Lib.hid g9
    have G10 := Lib.hid g10
    have NE := Lib.hid hne
    clear K9 K10 hb5 g9 g10 hne k0 k1 k2 k3 k4 k5
    go_wp2_with fail
    refine (HT2.out _).mono ?_
    rintro e6 w6 ⟨rfl, hb⟩
    replace D := Lib.hid (D.out.trans (hb.mono D.out.size))
    replace K9a := Lib.hid (K9a.out.call hb)
    replace K10a := Lib.hid (K10a.out.call hb)
    replace F := Lib.hid (F.out.below hb)
    clear hb
    go_wp2_with fail
    refine (HWB.out _ _ F.out).mono ?_
    rintro e7 w7 ⟨v7, rfl, ho, hb⟩
    obtain ⟨A7, c7, rfl, hcc⟩ := ho.flds
    clear hcc
    have L9 := Lib.hid K9a.out.lt
    have L10 := Lib.hid K10a.out.lt
    have L106 := Lib.hid L10.out
    replace D := Lib.hid (D.out.trans (hb.mono D.out.size))
    replace K9a := Lib.hid (K9a.out.call hb)
    replace K10a := Lib.hid (K10a.out.call hb)
    have O7 := Lib.hid ho
    clear hb ho
    have c5 := K9a.out.cell 5
    have f5 := K9a.out.froz 5
    simp at c5
    go_wp2_with fail
    obtain ⟨W8, hW8⟩ : ∃ X, X = w7.setCell ⟨b9, 5, none⟩ (.slice A7 T2.length c7) := ⟨_, rfl⟩
    rw [← hW8]
    clear c5 f5
    replace O7 := Lib.hid (show OwnF W8 w6.heap.size (.slice A7 T2.length c7) T2 by rw [hW8]; exact O7.out.keep ((Touch.refl (fun j => j = b9) w7).setCell (p := ⟨b9, 5, none⟩) rfl (.slice A7 T2.length c7)) (fun g hg e => by have h1 : g = b9 := e; have h2 := L9.out; omega))
    replace D := Lib.hid (show Below w4.heap.size w4 W8 by rw [hW8]; exact D.out.setCell (p := ⟨b9, 5, none⟩) G9.out (.slice A7 T2.length c7))
    replace K10a := Lib.hid (show Blk W8 b10 #[.string m, .string t, .int .i64 k, .int .i64 n, .string r, .slice A len cap] 24 by rw [hW8]; exact K10a.out.far (p := ⟨b9, 5, none⟩) (fun e => NE.out e.symm) (.slice A7 T2.length c7))
    replace K9a := Lib.hid (show Blk W8 b9 #[.string m, .string t, .int .i64 k, .int .i64 n, .string r, .slice A7 T2.length c7] 24 by rw [hW8]; exact K9a.out.set 5 (.slice A7 T2.length c7))
    replace F := Lib.hid (F4.out.below D.out)
    clear hW8 L9 L10
    refine (HWC.out _ _ F.out).mono ?_
    rintro e9 w9 ⟨v9, rfl, ho, hb⟩
    obtain ⟨A9, c9, rfl, hcc⟩ := ho.flds
    clear hcc
    have L10 := Lib.hid K10a.out.lt
    replace D := Lib.hid (D.out.trans (hb.mono D.out.size))
    replace K9a := Lib.hid (K9a.out.call hb)
    replace K10a := Lib.hid (K10a.out.call hb)
    replace O7 := Lib.hid (OwnF.call O7.out hb)
    have O9 := Lib.hid ho
    clear hb ho
    have c5 := K10a.out.cell 5
    have f5 := K10a.out.froz 5
    simp at c5
    have K9b : Blk (w9.setCell ⟨b10, 5, none⟩ (.slice A9 T3.length c9)) b9 #[.string m, .string t, .int .i64 k, .int .i64 n, .string r, .slice A7 T2.length c7] 24 := K9a.out.far (p := ⟨b10, 5, none⟩) (fun e => NE.out e) _
    have q0 := K9b.cell 0
    have q1 := K9b.cell 1
    have q2 := K9b.cell 2
    have q3 := K9b.cell 3
    have q4 := K9b.cell 4
    have q5 := K9b.cell 5
    simp only [List.getElem?_toArray, List.getElem?_cons_zero, List.getElem?_cons_succ] at q0 q1 q2 q3 q4 q5
    clear K9b
    go_wp2_with fail
    obtain ⟨W10, hW10⟩ : ∃ X, X = w9.setCell ⟨b10, 5, none⟩ (.slice A9 T3.length c9) := ⟨_, rfl⟩
    rw [← hW10]
    clear c5 f5
    replace O9 := Lib.hid (show OwnF W10 W8.heap.size (.slice A9 T3.length c9) T3 by rw [hW10]; exact O9.out.keep ((Touch.refl (fun j => j = b10) w9).setCell (p := ⟨b10, 5, none⟩) rfl (.slice A9 T3.length c9)) (fun g hg e => by have h1 : g = b10 := e; have h2 := L10.out; omega))
    replace O7 := Lib.hid (show OwnF W10 w6.heap.size (.slice A7 T2.length c7) T2 by rw [hW10]; exact O7.out.keep ((Touch.refl (fun j => j = b10) w9).setCell (p := ⟨b10, 5, none⟩) rfl (.slice A9 T3.length c9)) (fun g hg e => by have h1 : g = b10 := e; have h2 := L106.out; omega))
    replace D := Lib.hid (show Below w4.heap.size w4 W10 by rw [hW10]; exact D.out.setCell (p := ⟨b10, 5, none⟩) G10.out _)
    replace K9a := Lib.hid (show Blk W10 b9 #[.string m, .string t, .int .i64 k, .int .i64 n, .string r, .slice A7 T2.length c7] 24 by rw [hW10]; exact K9a.out.far (p := ⟨b10, 5, none⟩) (fun e => NE.out e) _)
    replace K10a := Lib.hid (show Blk W10 b10 #[.string m, .string t, .int .i64 k, .int .i64 n, .string r, .slice A9 T3.length c9] 24 by rw [hW10]; exact K10a.out.set 5 _)
    have FT2 := Lib.hid O7.out.flds
    have FT3 := Lib.hid O9.out.flds
    clear hW10 L10 L106 F O7 O9 HT1 HT2 HWO HWA HWB HWC
    clear q0 q1 q2 q3 q4 q5
    refine (HR2.out _ _ FT2.out).mono ?_
    rintro e11 w11 ⟨rfl, hb⟩
    replace D := Lib.hid (D.out.trans (hb.mono D.out.size))
    replace K9a := Lib.hid (K9a.out.call hb)
    replace K10a := Lib.hid (K10a.out.call hb)
    replace FT2 := Lib.hid (FT2.out.below hb)
    replace FT3 := Lib.hid (FT3.out.below hb)
    clear hb
    replace D := Lib.hid (D.out.alloc D.out.size (.cells #[.int .i64 R21, .int .i64 R22] 31))
    replace K9a := Lib.hid (K9a.out.alloc (.cells #[.int .i64 R21, .int .i64 R22] 31))
    replace K10a := Lib.hid (K10a.out.alloc (.cells #[.int .i64 R21, .int .i64 R22] 31))
    replace FT2 := Lib.hid (FT2.out.below ((Below.refl _ _).alloc (Nat.le_refl _) (.cells #[.int .i64 R21, .int .i64 R22] 31)))
    replace FT3 := Lib.hid (FT3.out.below ((Below.refl _ _).alloc (Nat.le_refl _) (.cells #[.int .i64 R21, .int .i64 R22] 31)))
    have q0 := K9a.out.cell 0
    have q1 := K9a.out.cell 1
    have q2 := K9a.out.cell 2
    have q3 := K9a.out.cell 3
    have q4 := K9a.out.cell 4
    have q5 := K9a.out.cell 5
    simp at q0 q1 q2 q3 q4 q5
    go_wp2_with fail
    clear q0 q1 q2 q3 q4 q5
    refine (HP2.out _ _ FT2.out).mono ?_
    rintro e12 w12 ⟨rfl, hb⟩
    replace D := Lib.hid (D.out.trans (hb.mono D.out.size))
    replace K9a := Lib.hid (K9a.out.call hb)
    replace K10a := Lib.hid (K10a.out.call hb)
    replace FT2 := Lib.hid (FT2.out.below hb)
    replace FT3 := Lib.hid (FT3.out.below hb)
    clear hb
    replace D := Lib.hid (D.out.alloc D.out.size (.cells #[.int .i64 P21, .int .i64 P22] 31))
    replace K9a := Lib.hid (K9a.out.alloc (.cells #[.int .i64 P21, .int .i64 P22] 31))
    replace K10a := Lib.hid (K10a.out.alloc (.cells #[.int .i64 P21, .int .i64 P22] 31))
    replace FT2 := Lib.hid (FT2.out.below ((Below.refl _ _).alloc (Nat.le_refl _) (.cells #[.int .i64 P21, .int .i64 P22] 31)))
    replace FT3 := Lib.hid (FT3.out.below ((Below.refl _ _).alloc (Nat.le_refl _) (.cells #[.int .i64 P21, .int .i64 P22] 31)))
    have q0 := K10a.out.cell 0
    have q1 := K10a.out.cell 1
    have q2 := K10a.out.cell 2
    have q3 := K10a.out.cell 3
    have q4 := K10a.out.cell 4
    have q5 := K10a.out.cell 5
    simp at q0 q1 q2 q3 q4 q5
    go_wp2_with fail
    clear q0 q1 q2 q3 q4 q5
    refine (HR3.out _ _ FT3.out).mono ?_
    rintro e13 w13 ⟨rfl, hb⟩
    replace D := Lib.hid (D.out.trans (hb.mono D.out.size))
    replace K9a := Lib.hid (K9a.out.call hb)
    replace K10a := Lib.hid (K10a.out.call hb)
    replace FT2 := Lib.hid (FT2.out.below hb)
    replace FT3 := Lib.hid (FT3.out.below hb)
    clear hb
    replace D := Lib.hid (D.out.alloc D.out.size (.cells #[.int .i64 R31, .int .i64 R32] 31))
    replace K9a := Lib.hid (K9a.out.alloc (.cells #[.int .i64 R31, .int .i64 R32] 31))
    replace K10a := Lib.hid (K10a.out.alloc (.cells #[.int .i64 R31, .int .i64 R32] 31))
    replace FT2 := Lib.hid (FT2.out.below ((Below.refl _ _).alloc (Nat.le_refl _) (.cells #[.int .i64 R31, .int .i64 R32] 31)))
    replace FT3 := Lib.hid (FT3.out.below ((Below.refl _ _).alloc (Nat.le_refl _) (.cells #[.int .i64 R31, .int .i64 R32] 31)))
    have q0 := K10a.out.cell 0
    have q1 := K10a.out.cell 1
    have q2 := K10a.out.cell 2
    have q3 := K10a.out.cell 3
    have q4 := K10a.out.cell 4
    have q5 := K10a.out.cell 5
    simp at q0 q1 q2 q3 q4 q5
    go_wp2_with fail
    clear q0 q1 q2 q3 q4 q5
    refine (HP3.out _ _ FT3.out).mono ?_
    rintro e14 w14 ⟨rfl, hb⟩
    replace D := Lib.hid (D.out.trans (hb.mono D.out.size))
    replace K9a := Lib.hid (K9a.out.call hb)
    replace K10a := Lib.hid (K10a.out.call hb)
    replace FT2 := Lib.hid (FT2.out.below hb)
    replace FT3 := Lib.hid (FT3.out.below hb)
    clear hb
    replace D := Lib.hid (D.out.alloc D.out.size (.cells #[.int .i64 P31, .int .i64 P32] 31))
    replace K9a := Lib.hid (K9a.out.alloc (.cells #[.int .i64 P31, .int .i64 P32] 31))
    replace K10a := Lib.hid (K10a.out.alloc (.cells #[.int .i64 P31, .int .i64 P32] 31))
    replace FT2 := Lib.hid (FT2.out.below ((Below.refl _ _).alloc (Nat.le_refl _) (.cells #[.int .i64 P31, .int .i64 P32] 31)))
    replace FT3 := Lib.hid (FT3.out.below ((Below.refl _ _).alloc (Nat.le_refl _) (.cells #[.int .i64 P31, .int .i64 P32] 31)))
    have g2 : (e2 == 14) = true ∨ ((e2 == 14) = false ∧ (e2 == 13) = true) := by
      rcases Q2.out with h | h
      · right; rw [h]; exact ⟨rfl, rfl⟩
      · left; rw [h]; rfl
    have g3 : (e3 == 14) = true ∨ ((e3 == 14) = false ∧ (e3 == 13) = true) := by
      rcases Q3.out with h | h
      · right; rw [h]; exact ⟨rfl, rfl⟩
      · left; rw [h]; rfl
    clear Q2 Q3
    rcases g2 with g2 | ⟨g2, g4⟩ <;> rcases g3 with g3 | ⟨g3, g5⟩
    all_goals
      go_wp2_with fail
      refine (HLV.out _).mono ?_
      rintro e15 w15 ⟨rfl, hb⟩
      have D2 := Lib.hid (D.out.trans (hb.mono D.out.size))
      clear hb
      go_wp2_with fail
      go_ret
      exact ⟨rfl, B4.out.trans (D2.out.mono B4.out.size)⟩
end Go.Proofs.YtimcmiokabbkfaaDoor
-- FoneLaw
namespace Go.Proofs.YtimcmiokabbkfaaDoor
open Go.RowKit
theorem framingOne_any (m t r : ByteArray) (k n a b : Int) {A : Option Addr} {len cap : Nat} {l : List Fd} {w : World} (h : Fds w A len l) (hl : len ≤ 9223372036854775807) :
    Calls Tryd.prog 3 #[.agg #[.string m, .string t, .int .i64 k, .int .i64 n, .string r, .slice A len cap], .int .i64 a, .int .i64 b] w fun e w' => e = .returned (.bool true) ∧ Below w.heap.size w w' := by
  have hb0 : Below w.heap.size w (w.alloc (.cells #[.string m, .string t, .int .i64 k, .int .i64 n, .string r, .slice A len cap] 24)) := (Below.refl _ _).alloc (Nat.le_refl _) _
  have hS := short_any (cap := cap) m t r k n (h.below hb0) hl
  by_cases hd : shortP m t r l = false ∨ decide (a < 0) = true ∨ decide (2147483647 < a) = true ∨ decide (b < 0) = true ∨ decide (2147483647 < b) = true ∨ (a == b) = true
  · exact fone_short m t r k n a b A len cap l w _ _ _ _ _ _ hS rfl rfl rfl rfl rfl hd
  · have hs : shortP m t r l = true := by
      cases hq : shortP m t r l with
      | true => rfl
      | false => exact absurd (Or.inl hq) hd
    rw [hs] at hS
    obtain ⟨h1, h2, _⟩ := shortP_ok hs
    have f : ∀ {c : Bool}, ¬ c = true → c = false := fun {c} hc => by cases c with
      | true => exact absurd rfl hc
      | false => rfl
    exact fone_main m t r k n a b A len cap l w hS (flds_of h) h1 h2 (f fun e => hd (.inr (.inl e))) (f fun e => hd (.inr (.inr (.inl e)))) (f fun e => hd (.inr (.inr (.inr (.inl e))))) (f fun e => hd (.inr (.inr (.inr (.inr (.inl e)))))) (f fun e => hd (.inr (.inr (.inr (.inr (.inr e))))))
end Go.Proofs.YtimcmiokabbkfaaDoor

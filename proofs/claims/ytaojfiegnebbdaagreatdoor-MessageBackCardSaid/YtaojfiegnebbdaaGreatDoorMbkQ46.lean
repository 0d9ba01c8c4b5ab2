/- Texts packed for one claim, 46 of 52: Fram. -/
import Derived.Test.YtaojfiegnebbdaaGreatDoorMbkQ6
import Derived.Test.YtaojfiegnebbdaaGreatDoorMbkQ41
import Derived.Test.YtaojfiegnebbdaaGreatDoorMbkQ42
import Derived.Test.YtaojfiegnebbdaaGreatDoorMbkQ45
set_option maxRecDepth 100000
set_option maxHeartbeats 16000000
set_option linter.unusedSimpArgs false
set_option linter.unusedVariables false
-- Fram
namespace Go.Proofs.YtaojfiegnebbdaaGreatDoor
open Go.RowKit
structure FdsOk (fs : List Fd) : Prop where
 len : fs.length ≤ 100000
 nam : ∀ g ∈ fs, g.1.size ≤ 1000000
 val : ∀ g ∈ fs, g.2.size ≤ 1000000
 te : (joinL (allB fs teB)).size ≤ 900000
def hostedV : List ByteArray → Int → Bool
 | [], k => decide (k ≤ 0)
 | [s], _ => (hostR s.data.toList).2.2 == 0
 | _ :: _ :: _, _ => false
theorem hostedV_eq (fs : List Fd) (k : Int) : hostedP fs k = hostedV (allB fs hoB) k := by
 unfold hostedP
 cases allB fs hoB with
 | nil => rfl
 | cons s r => cases r <;> rfl
theorem hostright_any (s : ByteArray) (hs : s.size ≤ 1000000) (w : World) : Calls Tryz.prog 88 #[.string s] w fun e w' => e = .returned (.bool ((hostR s.data.toList).2.2 == 0)) ∧ Below w.heap.size w w' := by
 have HP := lH (hostp_any s hs w)
 obtain ⟨N, P, X, hR⟩ : ∃ N P X, hostR s.data.toList = (N, P, X) := ⟨_, _, _, rfl⟩
 rw [hR] at HP ⊢
 clear hR hs
 go_enter Tryz.func88, Tryz.ntmps88
 go_wp2_with (go_at_call 89; refine HP.out.mono ?_; rintro e1 w1 ⟨rfl, h1⟩)
 go_ret
 exact ⟨rfl, h1⟩
theorem hosted_any (m t r : ByteArray) (k n : Int) (f : Value) (fs : List Fd) (w : World) (hf : Flds w f fs) (ok : FdsOk fs) :
 Calls Tryz.prog 45 #[.agg #[.string m, .string t, .int .i64 k, .int .i64 n, .string r, f]] w fun e w' => e = .returned (.bool (hostedP fs k)) ∧ Below w.heap.size w w' := by
 have KH0 := lH (Blk.new w #[.string m, .string t, .int .i64 k, .int .i64 n, .string r, f] 34)
 have B0 := lH ((Below.refl w.heap.size w).alloc (nR _) (.cells #[.string m, .string t, .int .i64 k, .int .i64 n, .string r, f] 34))
 have F0 := lH (hf.below B0.out)
 have HA := lH (hall_any fs f hoB (w.alloc (.cells #[.string m, .string t, .int .i64 k, .int .i64 n, .string r, f] 34)) F0.out (by have := ok.len; omega) ok.nam (by decide))
 have hav : ∀ s ∈ allB fs hoB, s.size ≤ 1000000 := by
  intro s hs
  unfold allB at hs
  obtain ⟨q, hq, rfl⟩ := List.mem_map.1 hs
  exact ok.val q (List.mem_filter.1 hq).1
 obtain ⟨A, hA⟩ : ∃ A, A = allB fs hoB := ⟨_, rfl⟩
 have HP : Hid (hostedP fs k = hostedV A k) := by show _ = _; rw [hA]; exact hostedV_eq fs k
 rw [← hA] at HA hav
 have HAV := lH hav
 clear hA hav hf ok
 obtain ⟨h00, h01, h02, h03, h04, h05⟩ := bc6 KH0.out 0 1 2 3 4 5
 simp at h00 h01 h02 h03 h04 h05
 unfold hoB at HA
 cases A with
 | nil =>
   go_enter Tryz.func45, Tryz.ntmps45
   go_wp2_with (go_at_call 87; refine HA.out.mono ?_; rintro e1 w1 ⟨v1, rfl, ho, hb⟩; obtain ⟨p1, c1, rfl⟩ := ho.shape; have KH1 := lH (KH0.out.call hb); have F1 := lH (F0.out.below hb); have B1 := lH (B0.out.trans (hb.mono B0.out.size)); clear hb; have h10 := KH1.out.cell 0; have g10 := KH1.out.froz 0; have h11 := KH1.out.cell 1; have g11 := KH1.out.froz 1; have h12 := KH1.out.cell 2; have g12 := KH1.out.froz 2; have h13 := KH1.out.cell 3; have g13 := KH1.out.froz 3; have h14 := KH1.out.cell 4; have g14 := KH1.out.froz 4; have h15 := KH1.out.cell 5; have g15 := KH1.out.froz 5; simp at h10 h11 h12 h13 h14 h15)
   go_ret
   rw [HP.out]
   exact ⟨rfl, B1.out⟩
 | cons s rest => cases rest with
   | nil =>
     have HR := lH (fun (W : World) => hostright_any s (HAV.out s (by simp)) W)
     go_enter Tryz.func45, Tryz.ntmps45
     go_wp2_with (go_at_call 87; refine HA.out.mono ?_; rintro e1 w1 ⟨v1, rfl, ho, hb⟩; obtain ⟨p1, c1, cur1, rfl, _⟩ := ho.block (by simp); have hc1 := ho.cell 0 (by simp); simp at hc1; have KH1 := lH (KH0.out.call hb); have F1 := lH (F0.out.below hb); have B1 := lH (B0.out.trans (hb.mono B0.out.size)); clear hb; have h10 := KH1.out.cell 0; have g10 := KH1.out.froz 0; have h11 := KH1.out.cell 1; have g11 := KH1.out.froz 1; have h12 := KH1.out.cell 2; have g12 := KH1.out.froz 2; have h13 := KH1.out.cell 3; have g13 := KH1.out.froz 3; have h14 := KH1.out.cell 4; have g14 := KH1.out.froz 4; have h15 := KH1.out.cell 5; have g15 := KH1.out.froz 5; simp at h10 h11 h12 h13 h14 h15)
     refine (HR.out _).mono ?_
     rintro e2 w2 ⟨rfl, hb2⟩
     go_wp2_with fail
     go_ret
     rw [HP.out]
     exact ⟨rfl, B1.out.trans (hb2.mono B1.out.size)⟩
   | cons s2 rest =>
     have l0 : (((s :: s2 :: rest).length : Int) == 0) = false := by rw [beq_eq_false_iff_ne]; simp only [List.length_cons]; omega
     have l1 : (((s :: s2 :: rest).length : Int) == 1) = false := by rw [beq_eq_false_iff_ne]; simp only [List.length_cons]; omega
     obtain ⟨L, hL⟩ : ∃ L, L = (s :: s2 :: rest).length := ⟨_, rfl⟩
     have HL := lH hL
     rw [← hL] at l0 l1
     clear hL
     go_enter Tryz.func45, Tryz.ntmps45
     go_wp2_with (go_at_call 87; refine HA.out.mono ?_; rintro e1 w1 ⟨v1, rfl, ho, hb⟩; obtain ⟨p1, c1, rfl⟩ := ho.shape; rw [← HL.out]; have KH1 := lH (KH0.out.call hb); have F1 := lH (F0.out.below hb); have B1 := lH (B0.out.trans (hb.mono B0.out.size)); clear hb; have h10 := KH1.out.cell 0; have g10 := KH1.out.froz 0; have h11 := KH1.out.cell 1; have g11 := KH1.out.froz 1; have h12 := KH1.out.cell 2; have g12 := KH1.out.froz 2; have h13 := KH1.out.cell 3; have g13 := KH1.out.froz 3; have h14 := KH1.out.cell 4; have g14 := KH1.out.froz 4; have h15 := KH1.out.cell 5; have g15 := KH1.out.froz 5; simp at h10 h11 h12 h13 h14 h15)
     go_ret
     rw [HP.out]
     exact ⟨rfl, B1.out⟩
def saidV (C : Bool) (ce q : Int) (has : Bool) (le cnt : Int) (k : Int) : Int × Int × Int :=
 if ce ≠ 0 then (0, 0, ce) else if C = true ∧ (k ≤ 0 ∨ 0 < cnt) then (0, 0, 14) else if le ≠ 0 then (0, 0, le) else if C = true then (2, 0, 0) else if has = true then (1, q, 0) else (3, 0, 0)
theorem said_core (m t r : ByteArray) (k n : Int) (f : Value) (fs : List Fd) (w : World) (hf : Flds w f fs) (C : Bool) (ce q : Int) (has : Bool) (le cnt : Int)
 (hc : ∀ W, Flds W f fs → Calls Tryz.prog 90 #[f] W fun e w' => e = .returned (.tuple #[.bool C, .int .i64 ce]) ∧ Below W.heap.size W w')
 (ho : ∀ W, Flds W f fs → Calls Tryz.prog 91 #[f] W fun e w' => e = .returned (.tuple #[.int .i64 q, .bool has, .int .i64 le]) ∧ Below W.heap.size W w')
 (hn : ∀ W, Flds W f fs → Calls Tryz.prog 92 #[f, .string clB] W fun e w' => e = .returned (.int .i64 cnt) ∧ Below W.heap.size W w')
 (v : Int × Int × Int) (hv : v = saidV C ce q has le cnt k) :
 Calls Tryz.prog 46 #[.agg #[.string m, .string t, .int .i64 k, .int .i64 n, .string r, f]] w fun e w' => e = .returned (.tuple #[.agg #[.int .i64 v.1, .int .i64 v.2.1], .int .i64 v.2.2]) ∧ Below w.heap.size w w' := by
 have KH0 := lH ((Blk.new w #[.string m, .string t, .int .i64 k, .int .i64 n, .string r, f] 34).alloc (.cells #[.int .i64 0, .int .i64 0] 37))
 have KF0 := Blk.new (w.alloc (.cells #[.string m, .string t, .int .i64 k, .int .i64 n, .string r, f] 34)) #[.int .i64 0, .int .i64 0] 37
 rw [show (w.alloc (.cells #[.string m, .string t, .int .i64 k, .int .i64 n, .string r, f] 34)).heap.size = w.heap.size + 1 by simp] at KF0
 replace KF0 := lH KF0
 have B0 := lH (((Below.refl w.heap.size w).alloc (nR _) (.cells #[.string m, .string t, .int .i64 k, .int .i64 n, .string r, f] 34)).alloc (by simp) (.cells #[.int .i64 0, .int .i64 0] 37))
 have F0 := lH (hf.below B0.out)
 have HC := lH hc
 have HO := lH ho
 have HN := lH hn
 unfold clB at HN
 clear hc ho hn hf
 obtain ⟨h00, h01, h02, h03, h04, h05⟩ := bc6 KH0.out 0 1 2 3 4 5
 obtain ⟨a00, a01⟩ := bc2 KF0.out 0 1
 simp at h00 h01 h02 h03 h04 h05 a00 a01
 unfold saidV at hv
 by_cases hce : ce = 0
 rotate_left
 ·have HV : Hid (v = (0, 0, ce)) := by show _ = _; rw [hv, if_pos hce]
  have c0 : (ce == 0) = false := by rw [beq_eq_false_iff_ne]; exact hce
  clear hv hce
  go_enter Tryz.func46, Tryz.ntmps46
  go_wp2_with (first | (go_at_call 90; refine (HC.out _ F0.out).mono ?_; rintro e1 w1 ⟨rfl, hb⟩; have KH1 := lH (KH0.out.call hb); have KF1 := lH (KF0.out.call hb); have F1 := lH (F0.out.below hb); have B1 := lH (B0.out.trans (hb.mono B0.out.size)); clear hb; have h10 := KH1.out.cell 0; have g10 := KH1.out.froz 0; have h11 := KH1.out.cell 1; have g11 := KH1.out.froz 1; have h12 := KH1.out.cell 2; have g12 := KH1.out.froz 2; have h13 := KH1.out.cell 3; have g13 := KH1.out.froz 3; have h14 := KH1.out.cell 4; have g14 := KH1.out.froz 4; have h15 := KH1.out.cell 5; have g15 := KH1.out.froz 5; simp at h10 h11 h12 h13 h14 h15; have a10 := KF1.out.cell 0; have b10 := KF1.out.froz 0; have a11 := KF1.out.cell 1; have b11 := KF1.out.froz 1; simp at a10 a11) | (go_at_call 91; refine (HO.out _ F1.out).mono ?_; rintro e2 w2 ⟨rfl, hb⟩; have KH2 := lH (KH1.out.call hb); have KF2 := lH (KF1.out.call hb); have F2 := lH (F1.out.below hb); have B2 := lH (B1.out.trans (hb.mono B1.out.size)); clear hb; have h20 := KH2.out.cell 0; have g20 := KH2.out.froz 0; have h21 := KH2.out.cell 1; have g21 := KH2.out.froz 1; have h22 := KH2.out.cell 2; have g22 := KH2.out.froz 2; have h23 := KH2.out.cell 3; have g23 := KH2.out.froz 3; have h24 := KH2.out.cell 4; have g24 := KH2.out.froz 4; have h25 := KH2.out.cell 5; have g25 := KH2.out.froz 5; simp at h20 h21 h22 h23 h24 h25; have a20 := KF2.out.cell 0; have b20 := KF2.out.froz 0; have a21 := KF2.out.cell 1; have b21 := KF2.out.froz 1; simp at a20 a21))
  rw [HV.out]
  exact bodyPost_ret (results_agg_tmp Tryz.results46 _ _ _ _ rfl (run_loadVar_row _ _ _ _ _ _ _ (blk_set2 KF2.out _ _) Tryz.underlying37 rfl (by kernel_rfl))) rfl ⟨rfl, (B2.out.setCell (by simp) _).setCell (by simp) _⟩
 subst hce
 rw [if_neg (by simp)] at hv
 cases C with
 | true =>
   by_cases hk : k ≤ 0
   ·have HV : Hid (v = (0, 0, 14)) := by show _ = _; rw [hv, if_pos ⟨rfl, Or.inl hk⟩]
    have k0 : decide (k ≤ 0) = true := dT hk
    clear hv hk
    go_enter Tryz.func46, Tryz.ntmps46
    go_wp2_with (first | (go_at_call 90; refine (HC.out _ F0.out).mono ?_; rintro e1 w1 ⟨rfl, hb⟩; have KH1 := lH (KH0.out.call hb); have KF1 := lH (KF0.out.call hb); have F1 := lH (F0.out.below hb); have B1 := lH (B0.out.trans (hb.mono B0.out.size)); clear hb; have h10 := KH1.out.cell 0; have g10 := KH1.out.froz 0; have h11 := KH1.out.cell 1; have g11 := KH1.out.froz 1; have h12 := KH1.out.cell 2; have g12 := KH1.out.froz 2; have h13 := KH1.out.cell 3; have g13 := KH1.out.froz 3; have h14 := KH1.out.cell 4; have g14 := KH1.out.froz 4; have h15 := KH1.out.cell 5; have g15 := KH1.out.froz 5; simp at h10 h11 h12 h13 h14 h15; have a10 := KF1.out.cell 0; have b10 := KF1.out.froz 0; have a11 := KF1.out.cell 1; have b11 := KF1.out.froz 1; simp at a10 a11) | (go_at_call 91; refine (HO.out _ F1.out).mono ?_; rintro e2 w2 ⟨rfl, hb⟩; have KH2 := lH (KH1.out.call hb); have KF2 := lH (KF1.out.call hb); have F2 := lH (F1.out.below hb); have B2 := lH (B1.out.trans (hb.mono B1.out.size)); clear hb; have h20 := KH2.out.cell 0; have g20 := KH2.out.froz 0; have h21 := KH2.out.cell 1; have g21 := KH2.out.froz 1; have h22 := KH2.out.cell 2; have g22 := KH2.out.froz 2; have h23 := KH2.out.cell 3; have g23 := KH2.out.froz 3; have h24 := KH2.out.cell 4; have g24 := KH2.out.froz 4; have h25 := KH2.out.cell 5; have g25 := KH2.out.froz 5; simp at h20 h21 h22 h23 h24 h25; have a20 := KF2.out.cell 0; have b20 := KF2.out.froz 0; have a21 := KF2.out.cell 1; have b21 := KF2.out.froz 1; simp at a20 a21))
    rw [HV.out]
    exact bodyPost_ret (results_agg_tmp Tryz.results46 _ _ _ _ rfl (run_loadVar_row _ _ _ _ _ _ _ (blk_set2 KF2.out _ _) Tryz.underlying37 rfl (by kernel_rfl))) rfl ⟨rfl, (B2.out.setCell (by simp) _).setCell (by simp) _⟩
   ·have k0 : decide (k ≤ 0) = false := dF hk
    by_cases hcn : 0 < cnt
    ·have HV : Hid (v = (0, 0, 14)) := by show _ = _; rw [hv, if_pos ⟨rfl, Or.inr hcn⟩]
     have n0 : decide (0 < cnt) = true := dT hcn
     clear hv hk hcn
     go_enter Tryz.func46, Tryz.ntmps46
     go_wp2_with (first | (go_at_call 90; refine (HC.out _ F0.out).mono ?_; rintro e1 w1 ⟨rfl, hb⟩; have KH1 := lH (KH0.out.call hb); have KF1 := lH (KF0.out.call hb); have F1 := lH (F0.out.below hb); have B1 := lH (B0.out.trans (hb.mono B0.out.size)); clear hb; have h10 := KH1.out.cell 0; have g10 := KH1.out.froz 0; have h11 := KH1.out.cell 1; have g11 := KH1.out.froz 1; have h12 := KH1.out.cell 2; have g12 := KH1.out.froz 2; have h13 := KH1.out.cell 3; have g13 := KH1.out.froz 3; have h14 := KH1.out.cell 4; have g14 := KH1.out.froz 4; have h15 := KH1.out.cell 5; have g15 := KH1.out.froz 5; simp at h10 h11 h12 h13 h14 h15; have a10 := KF1.out.cell 0; have b10 := KF1.out.froz 0; have a11 := KF1.out.cell 1; have b11 := KF1.out.froz 1; simp at a10 a11) | (go_at_call 91; refine (HO.out _ F1.out).mono ?_; rintro e2 w2 ⟨rfl, hb⟩; have KH2 := lH (KH1.out.call hb); have KF2 := lH (KF1.out.call hb); have F2 := lH (F1.out.below hb); have B2 := lH (B1.out.trans (hb.mono B1.out.size)); clear hb; have h20 := KH2.out.cell 0; have g20 := KH2.out.froz 0; have h21 := KH2.out.cell 1; have g21 := KH2.out.froz 1; have h22 := KH2.out.cell 2; have g22 := KH2.out.froz 2; have h23 := KH2.out.cell 3; have g23 := KH2.out.froz 3; have h24 := KH2.out.cell 4; have g24 := KH2.out.froz 4; have h25 := KH2.out.cell 5; have g25 := KH2.out.froz 5; simp at h20 h21 h22 h23 h24 h25; have a20 := KF2.out.cell 0; have b20 := KF2.out.froz 0; have a21 := KF2.out.cell 1; have b21 := KF2.out.froz 1; simp at a20 a21) | (go_at_call 92; refine (HN.out _ F2.out).mono ?_; rintro e3 w3 ⟨rfl, hb⟩; have KH3 := lH (KH2.out.call hb); have KF3 := lH (KF2.out.call hb); have F3 := lH (F2.out.below hb); have B3 := lH (B2.out.trans (hb.mono B2.out.size)); clear hb; have h30 := KH3.out.cell 0; have g30 := KH3.out.froz 0; have h31 := KH3.out.cell 1; have g31 := KH3.out.froz 1; have h32 := KH3.out.cell 2; have g32 := KH3.out.froz 2; have h33 := KH3.out.cell 3; have g33 := KH3.out.froz 3; have h34 := KH3.out.cell 4; have g34 := KH3.out.froz 4; have h35 := KH3.out.cell 5; have g35 := KH3.out.froz 5; simp at h30 h31 h32 h33 h34 h35; have a30 := KF3.out.cell 0; have b30 := KF3.out.froz 0; have a31 := KF3.out.cell 1; have b31 := KF3.out.froz 1; simp at a30 a31))
     rw [HV.out]
     exact bodyPost_ret (results_agg_tmp Tryz.results46 _ _ _ _ rfl (run_loadVar_row _ _ _ _ _ _ _ (blk_set2 KF3.out _ _) Tryz.underlying37 rfl (by kernel_rfl))) rfl ⟨rfl, (B3.out.setCell (by simp) _).setCell (by simp) _⟩
    ·have n0 : decide (0 < cnt) = false := dF hcn
     rw [if_neg (fun h => h.2.elim hk hcn)] at hv
     by_cases hle : le = 0
     ·subst hle
      have HV : Hid (v = (2, 0, 0)) := by show _ = _; rw [hv, if_neg (by simp), if_pos rfl]
      clear hv hk hcn
      go_enter Tryz.func46, Tryz.ntmps46
      go_wp2_with (first | (go_at_call 90; refine (HC.out _ F0.out).mono ?_; rintro e1 w1 ⟨rfl, hb⟩; have KH1 := lH (KH0.out.call hb); have KF1 := lH (KF0.out.call hb); have F1 := lH (F0.out.below hb); have B1 := lH (B0.out.trans (hb.mono B0.out.size)); clear hb; have h10 := KH1.out.cell 0; have g10 := KH1.out.froz 0; have h11 := KH1.out.cell 1; have g11 := KH1.out.froz 1; have h12 := KH1.out.cell 2; have g12 := KH1.out.froz 2; have h13 := KH1.out.cell 3; have g13 := KH1.out.froz 3; have h14 := KH1.out.cell 4; have g14 := KH1.out.froz 4; have h15 := KH1.out.cell 5; have g15 := KH1.out.froz 5; simp at h10 h11 h12 h13 h14 h15; have a10 := KF1.out.cell 0; have b10 := KF1.out.froz 0; have a11 := KF1.out.cell 1; have b11 := KF1.out.froz 1; simp at a10 a11) | (go_at_call 91; refine (HO.out _ F1.out).mono ?_; rintro e2 w2 ⟨rfl, hb⟩; have KH2 := lH (KH1.out.call hb); have KF2 := lH (KF1.out.call hb); have F2 := lH (F1.out.below hb); have B2 := lH (B1.out.trans (hb.mono B1.out.size)); clear hb; have h20 := KH2.out.cell 0; have g20 := KH2.out.froz 0; have h21 := KH2.out.cell 1; have g21 := KH2.out.froz 1; have h22 := KH2.out.cell 2; have g22 := KH2.out.froz 2; have h23 := KH2.out.cell 3; have g23 := KH2.out.froz 3; have h24 := KH2.out.cell 4; have g24 := KH2.out.froz 4; have h25 := KH2.out.cell 5; have g25 := KH2.out.froz 5; simp at h20 h21 h22 h23 h24 h25; have a20 := KF2.out.cell 0; have b20 := KF2.out.froz 0; have a21 := KF2.out.cell 1; have b21 := KF2.out.froz 1; simp at a20 a21) | (go_at_call 92; refine (HN.out _ F2.out).mono ?_; rintro e3 w3 ⟨rfl, hb⟩; have KH3 := lH (KH2.out.call hb); have KF3 := lH (KF2.out.call hb); have F3 := lH (F2.out.below hb); have B3 := lH (B2.out.trans (hb.mono B2.out.size)); clear hb; have h30 := KH3.out.cell 0; have g30 := KH3.out.froz 0; have h31 := KH3.out.cell 1; have g31 := KH3.out.froz 1; have h32 := KH3.out.cell 2; have g32 := KH3.out.froz 2; have h33 := KH3.out.cell 3; have g33 := KH3.out.froz 3; have h34 := KH3.out.cell 4; have g34 := KH3.out.froz 4; have h35 := KH3.out.cell 5; have g35 := KH3.out.froz 5; simp at h30 h31 h32 h33 h34 h35; have a30 := KF3.out.cell 0; have b30 := KF3.out.froz 0; have a31 := KF3.out.cell 1; have b31 := KF3.out.froz 1; simp at a30 a31))
      rw [HV.out]
      exact bodyPost_ret (results_agg_tmp Tryz.results46 _ _ _ _ rfl (run_loadVar_row _ _ _ _ _ _ _ (blk_set2 KF3.out _ _) Tryz.underlying37 rfl (by kernel_rfl))) rfl ⟨rfl, (B3.out.setCell (by simp) _).setCell (by simp) _⟩
     ·have HV : Hid (v = (0, 0, le)) := by show _ = _; rw [hv, if_pos hle]
      have c0 : (le == 0) = false := by rw [beq_eq_false_iff_ne]; exact hle
      clear hv hk hcn hle
      go_enter Tryz.func46, Tryz.ntmps46
      go_wp2_with (first | (go_at_call 90; refine (HC.out _ F0.out).mono ?_; rintro e1 w1 ⟨rfl, hb⟩; have KH1 := lH (KH0.out.call hb); have KF1 := lH (KF0.out.call hb); have F1 := lH (F0.out.below hb); have B1 := lH (B0.out.trans (hb.mono B0.out.size)); clear hb; have h10 := KH1.out.cell 0; have g10 := KH1.out.froz 0; have h11 := KH1.out.cell 1; have g11 := KH1.out.froz 1; have h12 := KH1.out.cell 2; have g12 := KH1.out.froz 2; have h13 := KH1.out.cell 3; have g13 := KH1.out.froz 3; have h14 := KH1.out.cell 4; have g14 := KH1.out.froz 4; have h15 := KH1.out.cell 5; have g15 := KH1.out.froz 5; simp at h10 h11 h12 h13 h14 h15; have a10 := KF1.out.cell 0; have b10 := KF1.out.froz 0; have a11 := KF1.out.cell 1; have b11 := KF1.out.froz 1; simp at a10 a11) | (go_at_call 91; refine (HO.out _ F1.out).mono ?_; rintro e2 w2 ⟨rfl, hb⟩; have KH2 := lH (KH1.out.call hb); have KF2 := lH (KF1.out.call hb); have F2 := lH (F1.out.below hb); have B2 := lH (B1.out.trans (hb.mono B1.out.size)); clear hb; have h20 := KH2.out.cell 0; have g20 := KH2.out.froz 0; have h21 := KH2.out.cell 1; have g21 := KH2.out.froz 1; have h22 := KH2.out.cell 2; have g22 := KH2.out.froz 2; have h23 := KH2.out.cell 3; have g23 := KH2.out.froz 3; have h24 := KH2.out.cell 4; have g24 := KH2.out.froz 4; have h25 := KH2.out.cell 5; have g25 := KH2.out.froz 5; simp at h20 h21 h22 h23 h24 h25; have a20 := KF2.out.cell 0; have b20 := KF2.out.froz 0; have a21 := KF2.out.cell 1; have b21 := KF2.out.froz 1; simp at a20 a21) | (go_at_call 92; refine (HN.out _ F2.out).mono ?_; rintro e3 w3 ⟨rfl, hb⟩; have KH3 := lH (KH2.out.call hb); have KF3 := lH (KF2.out.call hb); have F3 := lH (F2.out.below hb); have B3 := lH (B2.out.trans (hb.mono B2.out.size)); clear hb; have h30 := KH3.out.cell 0; have g30 := KH3.out.froz 0; have h31 := KH3.out.cell 1; have g31 := KH3.out.froz 1; have h32 := KH3.out.cell 2; have g32 := KH3.out.froz 2; have h33 := KH3.out.cell 3; have g33 := KH3.out.froz 3; have h34 := KH3.out.cell 4; have g34 := KH3.out.froz 4; have h35 := KH3.out.cell 5; have g35 := KH3.out.froz 5; simp at h30 h31 h32 h33 h34 h35; have a30 := KF3.out.cell 0; have b30 := KF3.out.froz 0; have a31 := KF3.out.cell 1; have b31 := KF3.out.froz 1; simp at a30 a31))
      rw [HV.out]
      exact bodyPost_ret (results_agg_tmp Tryz.results46 _ _ _ _ rfl (run_loadVar_row _ _ _ _ _ _ _ (blk_set2 KF3.out _ _) Tryz.underlying37 rfl (by kernel_rfl))) rfl ⟨rfl, (B3.out.setCell (by simp) _).setCell (by simp) _⟩
 | false =>
   rw [if_neg (by simp)] at hv
   by_cases hle : le = 0
   ·subst hle
    rw [if_neg (by simp), if_neg (by simp)] at hv
    cases has with
    | true =>
      have HV : Hid (v = (1, q, 0)) := by show _ = _; rw [hv, if_pos rfl]
      clear hv
      go_enter Tryz.func46, Tryz.ntmps46
      go_wp2_with (first | (go_at_call 90; refine (HC.out _ F0.out).mono ?_; rintro e1 w1 ⟨rfl, hb⟩; have KH1 := lH (KH0.out.call hb); have KF1 := lH (KF0.out.call hb); have F1 := lH (F0.out.below hb); have B1 := lH (B0.out.trans (hb.mono B0.out.size)); clear hb; have h10 := KH1.out.cell 0; have g10 := KH1.out.froz 0; have h11 := KH1.out.cell 1; have g11 := KH1.out.froz 1; have h12 := KH1.out.cell 2; have g12 := KH1.out.froz 2; have h13 := KH1.out.cell 3; have g13 := KH1.out.froz 3; have h14 := KH1.out.cell 4; have g14 := KH1.out.froz 4; have h15 := KH1.out.cell 5; have g15 := KH1.out.froz 5; simp at h10 h11 h12 h13 h14 h15; have a10 := KF1.out.cell 0; have b10 := KF1.out.froz 0; have a11 := KF1.out.cell 1; have b11 := KF1.out.froz 1; simp at a10 a11) | (go_at_call 91; refine (HO.out _ F1.out).mono ?_; rintro e2 w2 ⟨rfl, hb⟩; have KH2 := lH (KH1.out.call hb); have KF2 := lH (KF1.out.call hb); have F2 := lH (F1.out.below hb); have B2 := lH (B1.out.trans (hb.mono B1.out.size)); clear hb; have h20 := KH2.out.cell 0; have g20 := KH2.out.froz 0; have h21 := KH2.out.cell 1; have g21 := KH2.out.froz 1; have h22 := KH2.out.cell 2; have g22 := KH2.out.froz 2; have h23 := KH2.out.cell 3; have g23 := KH2.out.froz 3; have h24 := KH2.out.cell 4; have g24 := KH2.out.froz 4; have h25 := KH2.out.cell 5; have g25 := KH2.out.froz 5; simp at h20 h21 h22 h23 h24 h25; have a20 := KF2.out.cell 0; have b20 := KF2.out.froz 0; have a21 := KF2.out.cell 1; have b21 := KF2.out.froz 1; simp at a20 a21))
      rw [HV.out]
      exact bodyPost_ret (results_agg_tmp Tryz.results46 _ _ _ _ rfl (run_loadVar_row _ _ _ _ _ _ _ (blk_set2 KF2.out _ _) Tryz.underlying37 rfl (by kernel_rfl))) rfl ⟨rfl, (B2.out.setCell (by simp) _).setCell (by simp) _⟩
    | false =>
      have HV : Hid (v = (3, 0, 0)) := by show _ = _; rw [hv, if_neg (by simp)]
      clear hv
      go_enter Tryz.func46, Tryz.ntmps46
      go_wp2_with (first | (go_at_call 90; refine (HC.out _ F0.out).mono ?_; rintro e1 w1 ⟨rfl, hb⟩; have KH1 := lH (KH0.out.call hb); have KF1 := lH (KF0.out.call hb); have F1 := lH (F0.out.below hb); have B1 := lH (B0.out.trans (hb.mono B0.out.size)); clear hb; have h10 := KH1.out.cell 0; have g10 := KH1.out.froz 0; have h11 := KH1.out.cell 1; have g11 := KH1.out.froz 1; have h12 := KH1.out.cell 2; have g12 := KH1.out.froz 2; have h13 := KH1.out.cell 3; have g13 := KH1.out.froz 3; have h14 := KH1.out.cell 4; have g14 := KH1.out.froz 4; have h15 := KH1.out.cell 5; have g15 := KH1.out.froz 5; simp at h10 h11 h12 h13 h14 h15; have a10 := KF1.out.cell 0; have b10 := KF1.out.froz 0; have a11 := KF1.out.cell 1; have b11 := KF1.out.froz 1; simp at a10 a11) | (go_at_call 91; refine (HO.out _ F1.out).mono ?_; rintro e2 w2 ⟨rfl, hb⟩; have KH2 := lH (KH1.out.call hb); have KF2 := lH (KF1.out.call hb); have F2 := lH (F1.out.below hb); have B2 := lH (B1.out.trans (hb.mono B1.out.size)); clear hb; have h20 := KH2.out.cell 0; have g20 := KH2.out.froz 0; have h21 := KH2.out.cell 1; have g21 := KH2.out.froz 1; have h22 := KH2.out.cell 2; have g22 := KH2.out.froz 2; have h23 := KH2.out.cell 3; have g23 := KH2.out.froz 3; have h24 := KH2.out.cell 4; have g24 := KH2.out.froz 4; have h25 := KH2.out.cell 5; have g25 := KH2.out.froz 5; simp at h20 h21 h22 h23 h24 h25; have a20 := KF2.out.cell 0; have b20 := KF2.out.froz 0; have a21 := KF2.out.cell 1; have b21 := KF2.out.froz 1; simp at a20 a21))
      rw [HV.out]
      exact bodyPost_ret (results_agg_tmp Tryz.results46 _ _ _ _ rfl (run_loadVar_row _ _ _ _ _ _ _ (blk_set2 KF2.out _ _) Tryz.underlying37 rfl (by kernel_rfl))) rfl ⟨rfl, (B2.out.setCell (by simp) _).setCell (by simp) _⟩
   ·have HV : Hid (v = (0, 0, le)) := by show _ = _; rw [hv, if_pos hle]
    have c0 : (le == 0) = false := by rw [beq_eq_false_iff_ne]; exact hle
    clear hv hle
    go_enter Tryz.func46, Tryz.ntmps46
    go_wp2_with (first | (go_at_call 90; refine (HC.out _ F0.out).mono ?_; rintro e1 w1 ⟨rfl, hb⟩; have KH1 := lH (KH0.out.call hb); have KF1 := lH (KF0.out.call hb); have F1 := lH (F0.out.below hb); have B1 := lH (B0.out.trans (hb.mono B0.out.size)); clear hb; have h10 := KH1.out.cell 0; have g10 := KH1.out.froz 0; have h11 := KH1.out.cell 1; have g11 := KH1.out.froz 1; have h12 := KH1.out.cell 2; have g12 := KH1.out.froz 2; have h13 := KH1.out.cell 3; have g13 := KH1.out.froz 3; have h14 := KH1.out.cell 4; have g14 := KH1.out.froz 4; have h15 := KH1.out.cell 5; have g15 := KH1.out.froz 5; simp at h10 h11 h12 h13 h14 h15; have a10 := KF1.out.cell 0; have b10 := KF1.out.froz 0; have a11 := KF1.out.cell 1; have b11 := KF1.out.froz 1; simp at a10 a11) | (go_at_call 91; refine (HO.out _ F1.out).mono ?_; rintro e2 w2 ⟨rfl, hb⟩; have KH2 := lH (KH1.out.call hb); have KF2 := lH (KF1.out.call hb); have F2 := lH (F1.out.below hb); have B2 := lH (B1.out.trans (hb.mono B1.out.size)); clear hb; have h20 := KH2.out.cell 0; have g20 := KH2.out.froz 0; have h21 := KH2.out.cell 1; have g21 := KH2.out.froz 1; have h22 := KH2.out.cell 2; have g22 := KH2.out.froz 2; have h23 := KH2.out.cell 3; have g23 := KH2.out.froz 3; have h24 := KH2.out.cell 4; have g24 := KH2.out.froz 4; have h25 := KH2.out.cell 5; have g25 := KH2.out.froz 5; simp at h20 h21 h22 h23 h24 h25; have a20 := KF2.out.cell 0; have b20 := KF2.out.froz 0; have a21 := KF2.out.cell 1; have b21 := KF2.out.froz 1; simp at a20 a21))
    rw [HV.out]
    exact bodyPost_ret (results_agg_tmp Tryz.results46 _ _ _ _ rfl (run_loadVar_row _ _ _ _ _ _ _ (blk_set2 KF2.out _ _) Tryz.underlying37 rfl (by kernel_rfl))) rfl ⟨rfl, (B2.out.setCell (by simp) _).setCell (by simp) _⟩
theorem said_any (m t r : ByteArray) (k n : Int) (f : Value) (fs : List Fd) (w : World) (hf : Flds w f fs) (ok : FdsOk fs) :
 Calls Tryz.prog 46 #[.agg #[.string m, .string t, .int .i64 k, .int .i64 n, .string r, f]] w fun e w' => e = .returned (.tuple #[.agg #[.int .i64 (saidP fs k).1, .int .i64 (saidP fs k).2.1], .int .i64 (saidP fs k).2.2]) ∧ Below w.heap.size w w' := by
 refine said_core m t r k n f fs w hf (codP fs).1 (codP fs).2 ((lenP fs).elim 0 (max · 0)) ((lenP fs).elim false (fun r => decide (0 ≤ r))) ((lenP fs).elim 14 (fun _ => 0)) ((allB fs clB).length : Int)
  (fun W hW => chunked_any fs f W hW ok.len ok.nam ok.val ok.te)
  (fun W hW => lenof_any fs f W hW (by have := ok.len; omega) ok.nam ok.val)
  (fun W hW => hcount_any fs f clB W hW (by have := ok.len; omega) ok.nam (by decide)) (saidP fs k) ?_
 unfold saidP saidV
 by_cases h1 : (codP fs).2 ≠ 0
 ·rw [if_pos h1, if_pos h1]
 rw [if_neg h1, if_neg h1]
 have h2 : ((0 : Int) < ((allB fs clB).length : Int)) = (allB fs clB ≠ []) := propext (by rw [← List.length_pos_iff]; omega)
 by_cases h3 : (codP fs).1 = true ∧ (k ≤ 0 ∨ allB fs clB ≠ [])
 ·rw [if_pos h3, if_pos (by rw [h2]; exact h3)]
 rw [if_neg h3, if_neg (by rw [h2]; exact h3)]
 cases hl : lenP fs with
 | none =>
   rfl
 | some q =>
   show _ = (if (codP fs).1 = true then ((2 : Int), (0 : Int), (0 : Int)) else if decide (0 ≤ q) = true then (1, max q 0, 0) else (3, 0, 0))
   simp only
   by_cases hq : 0 ≤ q
   ·rw [if_pos hq, show max q 0 = q by omega]
    simp [hq]
   ·rw [if_neg hq]
    simp [hq]
theorem request_fr_any (m t r : ByteArray) (k n : Int) (f : Value) (fs : List Fd) (w : World) (hf : Flds w f fs) (ok : FdsOk fs) :
 Calls Tryz.prog 21 #[.agg #[.string m, .string t, .int .i64 k, .int .i64 n, .string r, f]] w fun e w' => e = .returned (.tuple #[.agg #[.int .i64 (reqP fs k).1, .int .i64 (reqP fs k).2.1], .int .i64 (reqP fs k).2.2]) ∧ Below w.heap.size w w' := by
 have KH0 := lH ((Blk.new w #[.string m, .string t, .int .i64 k, .int .i64 n, .string r, f] 34).alloc (.cells #[.int .i64 0, .int .i64 0] 37))
 have KF0 := Blk.new (w.alloc (.cells #[.string m, .string t, .int .i64 k, .int .i64 n, .string r, f] 34)) #[.int .i64 0, .int .i64 0] 37
 rw [show (w.alloc (.cells #[.string m, .string t, .int .i64 k, .int .i64 n, .string r, f] 34)).heap.size = w.heap.size + 1 by simp] at KF0
 replace KF0 := lH KF0
 have B0 := lH (((Below.refl w.heap.size w).alloc (nR _) (.cells #[.string m, .string t, .int .i64 k, .int .i64 n, .string r, f] 34)).alloc (by simp) (.cells #[.int .i64 0, .int .i64 0] 37))
 have F0 := lH (hf.below B0.out)
 have HH := lH (fun (W : World) hW => hosted_any m t r k n f fs W hW ok)
 have HS := lH (fun (W : World) hW => said_any m t r k n f fs W hW ok)
 obtain ⟨V, hV⟩ : ∃ V, V = reqP fs k := ⟨_, rfl⟩
 rw [← hV]
 unfold reqP at hV
 obtain ⟨H, hH⟩ : ∃ H, H = hostedP fs k := ⟨_, rfl⟩
 obtain ⟨q1, q2, q3, hq⟩ : ∃ q1 q2 q3, saidP fs k = (q1, q2, q3) := ⟨_, _, _, rfl⟩
 have h3 : q1 = 3 → q2 = 0 := by
  intro h
  have : (saidP fs k).1 = 3 := by rw [hq]; exact h
  have h2 : (saidP fs k).2.1 = 0 := by
   unfold saidP at this ⊢
   split at this
   ·cases this
   ·rename_i g1
    rw [if_neg g1]
    split at this
    ·cases this
    ·rename_i g2
     rw [if_neg g2]
     split at this
     ·cases this
     ·rename_i q g3
      try rw [g3]
      try simp only at this ⊢
      split at this
      ·cases this
      ·rename_i g4
       rw [if_neg g4]
       split at this
       ·cases this
       ·rename_i g5
        rw [if_neg g5]
  rw [hq] at h2
  exact h2
 rw [← hH, hq] at hV
 rw [← hH] at HH
 rw [hq] at HS
 simp only at hV
 clear hH hq ok hf
 obtain ⟨h00, h01, h02, h03, h04, h05⟩ := bc6 KH0.out 0 1 2 3 4 5
 obtain ⟨a00, a01⟩ := bc2 KF0.out 0 1
 simp at h00 h01 h02 h03 h04 h05 a00 a01
 cases H with
 | false =>
   have HV : Hid (V = (0, 0, 13)) := by show _ = _; rw [hV, if_pos rfl]
   clear hV h3
   go_enter Tryz.func21, Tryz.ntmps21
   go_wp2_with (go_at_call 45; refine (HH.out _ F0.out).mono ?_; rintro e1 w1 ⟨rfl, hb⟩; have KH1 := lH (KH0.out.call hb); have KF1 := lH (KF0.out.call hb); have F1 := lH (F0.out.below hb); have B1 := lH (B0.out.trans (hb.mono B0.out.size)); clear hb; have h10 := KH1.out.cell 0; have g10 := KH1.out.froz 0; have h11 := KH1.out.cell 1; have g11 := KH1.out.froz 1; have h12 := KH1.out.cell 2; have g12 := KH1.out.froz 2; have h13 := KH1.out.cell 3; have g13 := KH1.out.froz 3; have h14 := KH1.out.cell 4; have g14 := KH1.out.froz 4; have h15 := KH1.out.cell 5; have g15 := KH1.out.froz 5; simp at h10 h11 h12 h13 h14 h15; have a10 := KF1.out.cell 0; have b10 := KF1.out.froz 0; have a11 := KF1.out.cell 1; have b11 := KF1.out.froz 1; simp at a10 a11)
   rw [HV.out]
   exact bodyPost_ret (results_agg_tmp Tryz.results21 _ _ _ _ rfl (run_loadVar_row _ _ _ _ _ _ _ (blk_set2 KF1.out _ _) Tryz.underlying37 rfl (by kernel_rfl))) rfl ⟨rfl, (B1.out.setCell (by simp) _).setCell (by simp) _⟩
 | true =>
   rw [if_neg (by simp)] at hV
   by_cases hq : q1 = 3
   ·have h2 := h3 hq
    subst hq
    subst h2
    have HV : Hid (V = (0, 0, q3)) := by show _ = _; rw [hV, if_pos rfl]
    clear hV h3
    go_enter Tryz.func21, Tryz.ntmps21
    go_wp2_with (first | (go_at_call 45; refine (HH.out _ F0.out).mono ?_; rintro e1 w1 ⟨rfl, hb⟩; have KH1 := lH (KH0.out.call hb); have KF1 := lH (KF0.out.call hb); have F1 := lH (F0.out.below hb); have B1 := lH (B0.out.trans (hb.mono B0.out.size)); clear hb; have h10 := KH1.out.cell 0; have g10 := KH1.out.froz 0; have h11 := KH1.out.cell 1; have g11 := KH1.out.froz 1; have h12 := KH1.out.cell 2; have g12 := KH1.out.froz 2; have h13 := KH1.out.cell 3; have g13 := KH1.out.froz 3; have h14 := KH1.out.cell 4; have g14 := KH1.out.froz 4; have h15 := KH1.out.cell 5; have g15 := KH1.out.froz 5; simp at h10 h11 h12 h13 h14 h15; have a10 := KF1.out.cell 0; have b10 := KF1.out.froz 0; have a11 := KF1.out.cell 1; have b11 := KF1.out.froz 1; simp at a10 a11) | (go_at_call 46; refine (HS.out _ F1.out).mono ?_; rintro e2 w2 ⟨rfl, hb⟩; have KH2 := lH (KH1.out.call hb); have KF2 := lH (KF1.out.call hb); have F2 := lH (F1.out.below hb); have B2 := lH (B1.out.trans (hb.mono B1.out.size)); clear hb; have h20 := KH2.out.cell 0; have g20 := KH2.out.froz 0; have h21 := KH2.out.cell 1; have g21 := KH2.out.froz 1; have h22 := KH2.out.cell 2; have g22 := KH2.out.froz 2; have h23 := KH2.out.cell 3; have g23 := KH2.out.froz 3; have h24 := KH2.out.cell 4; have g24 := KH2.out.froz 4; have h25 := KH2.out.cell 5; have g25 := KH2.out.froz 5; simp at h20 h21 h22 h23 h24 h25; have a20 := KF2.out.cell 0; have b20 := KF2.out.froz 0; have a21 := KF2.out.cell 1; have b21 := KF2.out.froz 1; simp at a20 a21; have c20 : (w2.alloc (.cells #[.int .i64 3, .int .i64 0] 37)).cell? ⟨w.heap.size + 1, 0, none⟩ = some (.int .i64 0) := (KF2.out.alloc _).cell 0; have d20 : (w2.alloc (.cells #[.int .i64 3, .int .i64 0] 37)).frozen? ⟨w.heap.size + 1, 0, none⟩ = false := (KF2.out.alloc _).froz 0; have c21 : (w2.alloc (.cells #[.int .i64 3, .int .i64 0] 37)).cell? ⟨w.heap.size + 1, 1, none⟩ = some (.int .i64 0) := (KF2.out.alloc _).cell 1; have d21 : (w2.alloc (.cells #[.int .i64 3, .int .i64 0] 37)).frozen? ⟨w.heap.size + 1, 1, none⟩ = false := (KF2.out.alloc _).froz 1))
    rw [HV.out]
    exact bodyPost_ret (results_agg_tmp Tryz.results21 _ _ _ _ rfl (run_loadVar_row _ _ _ _ _ _ _ (blk_set2 (KF2.out.alloc _) _ _) Tryz.underlying37 rfl (by kernel_rfl))) rfl ⟨rfl, ((B2.out.alloc B2.out.size _).setCell (by simp) _).setCell (by simp) _⟩
   ·have HV : Hid (V = (q1, q2, q3)) := by show _ = _; rw [hV, if_neg hq]
    have q0 : (q1 == 3) = false := by rw [beq_eq_false_iff_ne]; exact hq
    clear hV h3 hq
    go_enter Tryz.func21, Tryz.ntmps21
    go_wp2_with (first | (go_at_call 45; refine (HH.out _ F0.out).mono ?_; rintro e1 w1 ⟨rfl, hb⟩; have KH1 := lH (KH0.out.call hb); have KF1 := lH (KF0.out.call hb); have F1 := lH (F0.out.below hb); have B1 := lH (B0.out.trans (hb.mono B0.out.size)); clear hb; have h10 := KH1.out.cell 0; have g10 := KH1.out.froz 0; have h11 := KH1.out.cell 1; have g11 := KH1.out.froz 1; have h12 := KH1.out.cell 2; have g12 := KH1.out.froz 2; have h13 := KH1.out.cell 3; have g13 := KH1.out.froz 3; have h14 := KH1.out.cell 4; have g14 := KH1.out.froz 4; have h15 := KH1.out.cell 5; have g15 := KH1.out.froz 5; simp at h10 h11 h12 h13 h14 h15; have a10 := KF1.out.cell 0; have b10 := KF1.out.froz 0; have a11 := KF1.out.cell 1; have b11 := KF1.out.froz 1; simp at a10 a11) | (go_at_call 46; refine (HS.out _ F1.out).mono ?_; rintro e2 w2 ⟨rfl, hb⟩; have KH2 := lH (KH1.out.call hb); have KF2 := lH (KF1.out.call hb); have F2 := lH (F1.out.below hb); have B2 := lH (B1.out.trans (hb.mono B1.out.size)); clear hb; have h20 := KH2.out.cell 0; have g20 := KH2.out.froz 0; have h21 := KH2.out.cell 1; have g21 := KH2.out.froz 1; have h22 := KH2.out.cell 2; have g22 := KH2.out.froz 2; have h23 := KH2.out.cell 3; have g23 := KH2.out.froz 3; have h24 := KH2.out.cell 4; have g24 := KH2.out.froz 4; have h25 := KH2.out.cell 5; have g25 := KH2.out.froz 5; simp at h20 h21 h22 h23 h24 h25; have a20 := KF2.out.cell 0; have b20 := KF2.out.froz 0; have a21 := KF2.out.cell 1; have b21 := KF2.out.froz 1; simp at a20 a21; have c20 : (w2.alloc (.cells #[.int .i64 q1, .int .i64 q2] 37)).cell? ⟨w.heap.size + 1, 0, none⟩ = some (.int .i64 0) := (KF2.out.alloc _).cell 0; have d20 : (w2.alloc (.cells #[.int .i64 q1, .int .i64 q2] 37)).frozen? ⟨w.heap.size + 1, 0, none⟩ = false := (KF2.out.alloc _).froz 0; have c21 : (w2.alloc (.cells #[.int .i64 q1, .int .i64 q2] 37)).cell? ⟨w.heap.size + 1, 1, none⟩ = some (.int .i64 0) := (KF2.out.alloc _).cell 1; have d21 : (w2.alloc (.cells #[.int .i64 q1, .int .i64 q2] 37)).frozen? ⟨w.heap.size + 1, 1, none⟩ = false := (KF2.out.alloc _).froz 1))
    rw [HV.out]
    exact bodyPost_ret (results_agg_tmp Tryz.results21 _ _ _ _ rfl (run_loadVar_row _ _ _ _ _ _ _ (blk_set2 (KF2.out.alloc _) _ _) Tryz.underlying37 rfl (by kernel_rfl))) rfl ⟨rfl, ((B2.out.alloc B2.out.size _).setCell (by simp) _).setCell (by simp) _⟩
theorem bodiless_any (status : Int) (method : ByteArray) (w : World) : Calls Tryz.prog 49 #[.int .i64 status, .string method] w fun e w' => e = .returned (.bool (bodilessP status method)) ∧ Below w.heap.size w w' := by
 have hd : decide (100 ≤ status ∧ status ≤ 199) = (decide (100 ≤ status) && decide (status ≤ 199)) := Bool.decide_and _ _
 have d4 : (status == 204) = decide (status = 204) := rfl
 have d5 : (status == 304) = decide (status = 304) := rfl
 obtain ⟨b2, hb2⟩ : ∃ b, b = decide (100 ≤ status) := ⟨_, rfl⟩
 obtain ⟨b3, hb3⟩ : ∃ b, b = decide (status ≤ 199) := ⟨_, rfl⟩
 obtain ⟨b4, hb4⟩ : ∃ b, b = decide (status = 204) := ⟨_, rfl⟩
 obtain ⟨b5, hb5⟩ : ∃ b, b = decide (status = 304) := ⟨_, rfl⟩
 obtain ⟨b1, hb1⟩ : ∃ b, b = decide (method = ⟨#[72, 69, 65, 68]⟩) := ⟨_, rfl⟩
 have HV : Hid (bodilessP status method = (b1 || ((b2 && b3) || (b4 || b5)))) := by
  show _ = _
  unfold bodilessP
  rw [hd, hb1, hb2, hb3, hb4, hb5]
 rw [← hb4] at d4
 rw [← hb5] at d5
 have d2 : decide (100 ≤ status) = b2 := hb2.symm
 have d3 : decide (status ≤ 199) = b3 := hb3.symm
 clear hb2 hb3 hb4 hb5 hd
 by_cases hm : method = ⟨#[72, 69, 65, 68]⟩
 ·rw [dT hm] at hb1
  subst hb1
  subst hm
  go_enter Tryz.func49, Tryz.ntmps49
  go_wp2_with fail
  go_ret
  rw [HV.out]
  exact ⟨rfl, Below.refl _ _⟩
 ·rw [dF hm] at hb1
  subst hb1
  have hx : ¬ (method.toList = [72, 69, 65, 68]) := by
   intro h
   rw [ByteArray.toList_eq] at h
   exact hm (ext_list h)
  have hy : (method.toList == [72, 69, 65, 68]) = false := by rw [beq_eq_false_iff_ne]; exact hx
  clear hm
  cases b2 <;> cases b3 <;> cases b4
  all_goals
   go_enter Tryz.func49, Tryz.ntmps49
   go_wp2_with fail
   go_ret
   rw [HV.out]
   exact ⟨rfl, Below.refl _ _⟩
theorem response_any (m t r : ByteArray) (k n : Int) (f : Value) (fs : List Fd) (method : ByteArray) (w : World) (hf : Flds w f fs) (ok : FdsOk fs) :
 Calls Tryz.prog 25 #[.agg #[.string m, .string t, .int .i64 k, .int .i64 n, .string r, f], .string method] w fun e w' => e = .returned (.tuple #[.agg #[.int .i64 (respP fs k n method).1, .int .i64 (respP fs k n method).2.1], .int .i64 (respP fs k n method).2.2]) ∧ Below w.heap.size w w' := by
 have KH0 := lH ((Blk.new w #[.string m, .string t, .int .i64 k, .int .i64 n, .string r, f] 34).alloc (.cells #[.int .i64 0, .int .i64 0] 37))
 have KF0 := Blk.new (w.alloc (.cells #[.string m, .string t, .int .i64 k, .int .i64 n, .string r, f] 34)) #[.int .i64 0, .int .i64 0] 37
 rw [show (w.alloc (.cells #[.string m, .string t, .int .i64 k, .int .i64 n, .string r, f] 34)).heap.size = w.heap.size + 1 by simp] at KF0
 replace KF0 := lH KF0
 have B0 := lH (((Below.refl w.heap.size w).alloc (nR _) (.cells #[.string m, .string t, .int .i64 k, .int .i64 n, .string r, f] 34)).alloc (by simp) (.cells #[.int .i64 0, .int .i64 0] 37))
 have F0 := lH (hf.below B0.out)
 have HS := lH (fun (W : World) hW => said_any m t r k n f fs W hW ok)
 have HB := lH (fun (W : World) => bodiless_any n method W)
 obtain ⟨V, hV⟩ : ∃ V, V = respP fs k n method := ⟨_, rfl⟩
 rw [← hV]
 unfold respP at hV
 obtain ⟨H, hH⟩ : ∃ H, H = bodilessP n method := ⟨_, rfl⟩
 obtain ⟨q1, q2, q3, hq⟩ : ∃ q1 q2 q3, saidP fs k = (q1, q2, q3) := ⟨_, _, _, rfl⟩
 rw [← hH, hq] at hV
 rw [← hH] at HB
 rw [hq] at HS
 simp only at hV
 clear hH hq ok hf
 obtain ⟨h00, h01, h02, h03, h04, h05⟩ := bc6 KH0.out 0 1 2 3 4 5
 obtain ⟨a00, a01⟩ := bc2 KF0.out 0 1
 simp at h00 h01 h02 h03 h04 h05 a00 a01
 cases H with
 | true =>
   have HV : Hid (V = (0, 0, q3)) := by show _ = _; rw [hV, if_pos rfl]
   clear hV
   go_enter Tryz.func25, Tryz.ntmps25
   go_wp2_with (go_at_call 46; refine (HS.out _ F0.out).mono ?_; rintro e1 w1 ⟨rfl, hb⟩; have KH1 := lH (KH0.out.call hb); have KF1 := lH (KF0.out.call hb); have F1 := lH (F0.out.below hb); have B1 := lH (B0.out.trans (hb.mono B0.out.size)); clear hb; have h10 := KH1.out.cell 0; have g10 := KH1.out.froz 0; have h11 := KH1.out.cell 1; have g11 := KH1.out.froz 1; have h12 := KH1.out.cell 2; have g12 := KH1.out.froz 2; have h13 := KH1.out.cell 3; have g13 := KH1.out.froz 3; have h14 := KH1.out.cell 4; have g14 := KH1.out.froz 4; have h15 := KH1.out.cell 5; have g15 := KH1.out.froz 5; simp at h10 h11 h12 h13 h14 h15; have a10 := KF1.out.cell 0; have b10 := KF1.out.froz 0; have a11 := KF1.out.cell 1; have b11 := KF1.out.froz 1; simp at a10 a11; have KV := lH (Blk.new w1 #[.int .i64 q1, .int .i64 q2] 37); have x3 : (w1.alloc (.cells #[.int .i64 q1, .int .i64 q2] 37)).cell? ⟨w.heap.size, 3, none⟩ = some (.int .i64 n) := (KH1.out.alloc _).cell 3)
   refine (HB.out _).mono ?_
   rintro e2 w2 ⟨rfl, hb⟩
   have KF2 := lH ((KF1.out.alloc (.cells #[.int .i64 q1, .int .i64 q2] 37)).call hb)
   have B2 := lH ((B1.out.alloc B1.out.size (.cells #[.int .i64 q1, .int .i64 q2] 37)).trans (hb.mono (B1.out.alloc B1.out.size (.cells #[.int .i64 q1, .int .i64 q2] 37)).size))
   have KV2 := lH (KV.out.call hb)
   clear hb
   obtain ⟨v0, v1⟩ := bc2 KV2.out 0 1
   have a20 := KF2.out.cell 0
   have b20 := KF2.out.froz 0
   have a21 := KF2.out.cell 1
   have b21 := KF2.out.froz 1
   simp at v0 v1 a20 a21
   go_wp2_with fail
   rw [HV.out]
   exact bodyPost_ret (results_agg_tmp Tryz.results25 _ _ _ _ rfl (run_loadVar_row _ _ _ _ _ _ _ (blk_set2 KF2.out _ _) Tryz.underlying37 rfl (by kernel_rfl))) rfl ⟨rfl, (B2.out.setCell (by simp) _).setCell (by simp) _⟩
 | false =>
   have HV : Hid (V = (q1, q2, q3)) := by show _ = _; rw [hV, if_neg (by simp)]
   clear hV
   go_enter Tryz.func25, Tryz.ntmps25
   go_wp2_with (go_at_call 46; refine (HS.out _ F0.out).mono ?_; rintro e1 w1 ⟨rfl, hb⟩; have KH1 := lH (KH0.out.call hb); have KF1 := lH (KF0.out.call hb); have F1 := lH (F0.out.below hb); have B1 := lH (B0.out.trans (hb.mono B0.out.size)); clear hb; have h10 := KH1.out.cell 0; have g10 := KH1.out.froz 0; have h11 := KH1.out.cell 1; have g11 := KH1.out.froz 1; have h12 := KH1.out.cell 2; have g12 := KH1.out.froz 2; have h13 := KH1.out.cell 3; have g13 := KH1.out.froz 3; have h14 := KH1.out.cell 4; have g14 := KH1.out.froz 4; have h15 := KH1.out.cell 5; have g15 := KH1.out.froz 5; simp at h10 h11 h12 h13 h14 h15; have a10 := KF1.out.cell 0; have b10 := KF1.out.froz 0; have a11 := KF1.out.cell 1; have b11 := KF1.out.froz 1; simp at a10 a11; have KV := lH (Blk.new w1 #[.int .i64 q1, .int .i64 q2] 37); have x3 : (w1.alloc (.cells #[.int .i64 q1, .int .i64 q2] 37)).cell? ⟨w.heap.size, 3, none⟩ = some (.int .i64 n) := (KH1.out.alloc _).cell 3)
   refine (HB.out _).mono ?_
   rintro e2 w2 ⟨rfl, hb⟩
   have KF2 := lH ((KF1.out.alloc (.cells #[.int .i64 q1, .int .i64 q2] 37)).call hb)
   have B2 := lH ((B1.out.alloc B1.out.size (.cells #[.int .i64 q1, .int .i64 q2] 37)).trans (hb.mono (B1.out.alloc B1.out.size (.cells #[.int .i64 q1, .int .i64 q2] 37)).size))
   have KV2 := lH (KV.out.call hb)
   clear hb
   obtain ⟨v0, v1⟩ := bc2 KV2.out 0 1
   have a20 := KF2.out.cell 0
   have b20 := KF2.out.froz 0
   have a21 := KF2.out.cell 1
   have b21 := KF2.out.froz 1
   simp at v0 v1 a20 a21
   go_wp2_with fail
   rw [HV.out]
   exact bodyPost_ret (results_agg_tmp Tryz.results25 _ _ _ _ rfl (run_loadVar_row _ _ _ _ _ _ _ (blk_set2 KF2.out _ _) Tryz.underlying37 rfl (by kernel_rfl))) rfl ⟨rfl, (B2.out.setCell (by simp) _).setCell (by simp) _⟩
end Go.Proofs.YtaojfiegnebbdaaGreatDoor
/- Texts packed for one claim, 47 of 52: MsB MsF MsC MsT MsN MsM MsQ MsR MsV MsO MsS MsU MsW. -/
import Derived.Test.YtaojfiegnebbdaaGreatDoorMbkQ40
import Derived.Test.YtaojfiegnebbdaaGreatDoorMbkQ46
import Derived.Test.YtaojfiegnebbdaaGreatDoorMbkQ27
import Derived.Test.YtaojfiegnebbdaaGreatDoorMbkQ37
import Derived.Test.YtaojfiegnebbdaaGreatDoorMbkQ18
import Derived.Test.YtaojfiegnebbdaaGreatDoorMbkQ31
import Derived.Test.YtaojfiegnebbdaaGreatDoorMbkQ5
set_option maxRecDepth 100000
set_option maxHeartbeats 16000000
set_option linter.unusedSimpArgs false
set_option linter.unusedVariables false
-- MsB
namespace Go.Proofs.YtaojfiegnebbdaaGreatDoor
open Go.RowKit
theorem two_le (n : Nat) : n ≤ n + 1 + 1 := by omega
theorem mbad_any (n e : Int) (w : World) : Calls Tryz.prog 93 #[.int .i64 n, .int .i64 e] w fun x w' => x = .returned (.agg #[.int .i64 2, .int .i64 n, .int .i64 e]) ∧ Below w.heap.size w w' := by
 go_enter Tryz.func93, Tryz.ntmps93
 go_wp2_with fail
 refine bodyPost_ret (results_cell_row (Tryz.results93) _ _ w.heap.size 91 #[.int .i64 2, .int .i64 n, .int .i64 e] (0, 0) _ rfl ?_ Tryz.underlying91 rfl (by kernel_rfl)) rfl ⟨rfl, ?_⟩
 ·exact Blk.new _ _ _
 ·exact (Below.refl w.heap.size w).alloc (nR _) _
theorem mbehind_whole (c0 c1 c2 c3 c4 c5 c6 c7 c8 c9 c10 : Value) (n : Int) (w : World) : Calls Tryz.prog 50 #[.agg #[c0, c1, c2, c3, c4, c5, c6, c7, c8, c9, c10, .int .i64 n]] w fun x w' => x = .returned (.int .i64 n) ∧ Below w.heap.size w w' := by
 go_enter Tryz.func50, Tryz.ntmps50
 go_wp2_with fail
 go_ret
 exact ⟨rfl, (Below.refl w.heap.size w).alloc (nR _) _⟩
theorem frame_any1 (x : ByteArray) (closed : Bool) (a fields c d fold : Int) (h : Hd) (f : Value) (method : ByteArray) (w : World) (hf : Flds w f h.fs) (ok : FdsOk h.fs) :
 Calls Tryz.prog 94 #[.agg #[.string x, .bool closed, .int .i64 a, .int .i64 fields, .int .i64 c, .int .i64 d, .int .i64 fold, .int .i64 1], .agg #[.string h.m, .string h.t, .int .i64 h.k, .int .i64 h.n, .string h.r, f], .string method] w fun e w' => e = .returned (.tuple #[.agg #[.int .i64 (frmP 1 h method).1, .int .i64 (frmP 1 h method).2.1], .int .i64 (frmP 1 h method).2.2]) ∧ Below w.heap.size w w' := by
 have HQ := lH (fun (W : World) hW => request_fr_any h.m h.t h.r h.k h.n f h.fs W hW ok)
 obtain ⟨v1, v2, v3, hV⟩ : ∃ v1 v2 v3, frmP 1 h method = (v1, v2, v3) := ⟨_, _, _, rfl⟩
 rw [hV]
 unfold frmP at hV
 rw [if_pos rfl] at hV
 rw [hV] at HQ
 simp only at HQ ⊢
 clear hV ok
 have K0 := lH (((Blk.new w #[.string x, .bool closed, .int .i64 a, .int .i64 fields, .int .i64 c, .int .i64 d, .int .i64 fold, .int .i64 1] 84).alloc (.cells #[.string h.m, .string h.t, .int .i64 h.k, .int .i64 h.n, .string h.r, f] 34)).alloc (.cells #[.int .i64 0, .int .i64 0] 37))
 have KH0 : Blk (((w.alloc (.cells #[.string x, .bool closed, .int .i64 a, .int .i64 fields, .int .i64 c, .int .i64 d, .int .i64 fold, .int .i64 1] 84)).alloc (.cells #[.string h.m, .string h.t, .int .i64 h.k, .int .i64 h.n, .string h.r, f] 34)).alloc (.cells #[.int .i64 0, .int .i64 0] 37)) (w.heap.size + 1) #[.string h.m, .string h.t, .int .i64 h.k, .int .i64 h.n, .string h.r, f] 34 := (Blk.new' (by simp)).alloc _
 have KF0 : Blk (((w.alloc (.cells #[.string x, .bool closed, .int .i64 a, .int .i64 fields, .int .i64 c, .int .i64 d, .int .i64 fold, .int .i64 1] 84)).alloc (.cells #[.string h.m, .string h.t, .int .i64 h.k, .int .i64 h.n, .string h.r, f] 34)).alloc (.cells #[.int .i64 0, .int .i64 0] 37)) (w.heap.size + 2) #[.int .i64 0, .int .i64 0] 37 := Blk.new' (by simp)
 replace KH0 := lH KH0
 replace KF0 := lH KF0
 have B0 := lH ((((Below.refl w.heap.size w).alloc (nR _) (.cells #[.string x, .bool closed, .int .i64 a, .int .i64 fields, .int .i64 c, .int .i64 d, .int .i64 fold, .int .i64 1] 84)).alloc (by simp) (.cells #[.string h.m, .string h.t, .int .i64 h.k, .int .i64 h.n, .string h.r, f] 34)).alloc (by simp; omega) (.cells #[.int .i64 0, .int .i64 0] 37))
 have F0 := lH (hf.below B0.out)
 have y07 := K0.out.cell 7
 simp at y07
 have h00 := KH0.out.cell 0
 have gh00 := KH0.out.froz 0
 have h01 := KH0.out.cell 1
 have gh01 := KH0.out.froz 1
 have h02 := KH0.out.cell 2
 have gh02 := KH0.out.froz 2
 have h03 := KH0.out.cell 3
 have gh03 := KH0.out.froz 3
 have h04 := KH0.out.cell 4
 have gh04 := KH0.out.froz 4
 have h05 := KH0.out.cell 5
 have gh05 := KH0.out.froz 5
 simp at h00 h01 h02 h03 h04 h05
 have a00 := KF0.out.cell 0
 have ga00 := KF0.out.froz 0
 have a01 := KF0.out.cell 1
 have ga01 := KF0.out.froz 1
 simp at a00 a01
 clear hf
 go_enter Tryz.func94, Tryz.ntmps94
 go_wp2_with (go_at_call 21; refine (HQ.out _ F0.out).mono ?_; rintro e1 w1 ⟨rfl, hb⟩; have KH1 := lH (KH0.out.call hb); have KF1 := lH (KF0.out.call hb); have B1 := lH (B0.out.trans (hb.mono B0.out.size)); clear hb; have h10 := KH1.out.cell 0; have gh10 := KH1.out.froz 0; have h11 := KH1.out.cell 1; have gh11 := KH1.out.froz 1; have h12 := KH1.out.cell 2; have gh12 := KH1.out.froz 2; have h13 := KH1.out.cell 3; have gh13 := KH1.out.froz 3; have h14 := KH1.out.cell 4; have gh14 := KH1.out.froz 4; have h15 := KH1.out.cell 5; have gh15 := KH1.out.froz 5; simp at h10 h11 h12 h13 h14 h15; have a10 := KF1.out.cell 0; have ga10 := KF1.out.froz 0; have a11 := KF1.out.cell 1; have ga11 := KF1.out.froz 1; simp at a10 a11)
 exact bodyPost_ret (results_agg_tmp Tryz.results94 _ _ _ _ rfl (run_loadVar_row _ _ _ _ _ _ _ (blk_set2 KF1.out _ _) Tryz.underlying37 rfl (by kernel_rfl))) rfl ⟨rfl, (B1.out.setCell (two_le _) _).setCell (two_le _) _⟩
theorem frame_any2 (x : ByteArray) (closed : Bool) (a fields c d fold : Int) (h : Hd) (f : Value) (method : ByteArray) (w : World) (hf : Flds w f h.fs) (ok : FdsOk h.fs) :
 Calls Tryz.prog 94 #[.agg #[.string x, .bool closed, .int .i64 a, .int .i64 fields, .int .i64 c, .int .i64 d, .int .i64 fold, .int .i64 2], .agg #[.string h.m, .string h.t, .int .i64 h.k, .int .i64 h.n, .string h.r, f], .string method] w fun e w' => e = .returned (.tuple #[.agg #[.int .i64 (frmP 2 h method).1, .int .i64 (frmP 2 h method).2.1], .int .i64 (frmP 2 h method).2.2]) ∧ Below w.heap.size w w' := by
 have HQ := lH (fun (W : World) hW => response_any h.m h.t h.r h.k h.n f h.fs method W hW ok)
 obtain ⟨v1, v2, v3, hV⟩ : ∃ v1 v2 v3, respP h.fs h.k h.n method = (v1, v2, v3) := ⟨_, _, _, rfl⟩
 unfold frmP
 rw [if_neg (show ¬ ((2 : Int) = 1) by decide), hV]
 rw [hV] at HQ
 simp only at HQ ⊢
 clear hV ok
 obtain ⟨hm, ht, hk, hn, hr, hfs⟩ := h
 simp only at hf HQ ⊢
 by_cases h0 : v3 = 0
 ·subst h0
  by_cases h1 : hn = 101
  ·subst h1
   rw [if_pos ⟨rfl, rfl⟩]
   have K0 := lH (((Blk.new w #[.string x, .bool closed, .int .i64 a, .int .i64 fields, .int .i64 c, .int .i64 d, .int .i64 fold, .int .i64 2] 84).alloc (.cells #[.string hm, .string ht, .int .i64 hk, .int .i64 101, .string hr, f] 34)).alloc (.cells #[.int .i64 0, .int .i64 0] 37))
   have KH0 : Blk (((w.alloc (.cells #[.string x, .bool closed, .int .i64 a, .int .i64 fields, .int .i64 c, .int .i64 d, .int .i64 fold, .int .i64 2] 84)).alloc (.cells #[.string hm, .string ht, .int .i64 hk, .int .i64 101, .string hr, f] 34)).alloc (.cells #[.int .i64 0, .int .i64 0] 37)) (w.heap.size + 1) #[.string hm, .string ht, .int .i64 hk, .int .i64 101, .string hr, f] 34 := (Blk.new' (by simp)).alloc _
   have KF0 : Blk (((w.alloc (.cells #[.string x, .bool closed, .int .i64 a, .int .i64 fields, .int .i64 c, .int .i64 d, .int .i64 fold, .int .i64 2] 84)).alloc (.cells #[.string hm, .string ht, .int .i64 hk, .int .i64 101, .string hr, f] 34)).alloc (.cells #[.int .i64 0, .int .i64 0] 37)) (w.heap.size + 2) #[.int .i64 0, .int .i64 0] 37 := Blk.new' (by simp)
   replace KH0 := lH KH0
   replace KF0 := lH KF0
   have B0 := lH ((((Below.refl w.heap.size w).alloc (nR _) (.cells #[.string x, .bool closed, .int .i64 a, .int .i64 fields, .int .i64 c, .int .i64 d, .int .i64 fold, .int .i64 2] 84)).alloc (by simp) (.cells #[.string hm, .string ht, .int .i64 hk, .int .i64 101, .string hr, f] 34)).alloc (by simp; omega) (.cells #[.int .i64 0, .int .i64 0] 37))
   have F0 := lH (hf.below B0.out)
   have y07 := K0.out.cell 7
   simp at y07
   have h00 := KH0.out.cell 0
   have gh00 := KH0.out.froz 0
   have h01 := KH0.out.cell 1
   have gh01 := KH0.out.froz 1
   have h02 := KH0.out.cell 2
   have gh02 := KH0.out.froz 2
   have h03 := KH0.out.cell 3
   have gh03 := KH0.out.froz 3
   have h04 := KH0.out.cell 4
   have gh04 := KH0.out.froz 4
   have h05 := KH0.out.cell 5
   have gh05 := KH0.out.froz 5
   simp at h00 h01 h02 h03 h04 h05
   have a00 := KF0.out.cell 0
   have ga00 := KF0.out.froz 0
   have a01 := KF0.out.cell 1
   have ga01 := KF0.out.froz 1
   simp at a00 a01
   clear hf
   go_enter Tryz.func94, Tryz.ntmps94
   go_wp2_with (go_at_call 25; refine (HQ.out _ F0.out).mono ?_; rintro e1 w1 ⟨rfl, hb⟩; have KH1 := lH (KH0.out.call hb); have KF1 := lH (KF0.out.call hb); have B1 := lH (B0.out.trans (hb.mono B0.out.size)); clear hb; have h10 := KH1.out.cell 0; have gh10 := KH1.out.froz 0; have h11 := KH1.out.cell 1; have gh11 := KH1.out.froz 1; have h12 := KH1.out.cell 2; have gh12 := KH1.out.froz 2; have h13 := KH1.out.cell 3; have gh13 := KH1.out.froz 3; have h14 := KH1.out.cell 4; have gh14 := KH1.out.froz 4; have h15 := KH1.out.cell 5; have gh15 := KH1.out.froz 5; simp at h10 h11 h12 h13 h14 h15; have a10 := KF1.out.cell 0; have ga10 := KF1.out.froz 0; have a11 := KF1.out.cell 1; have ga11 := KF1.out.froz 1; simp at a10 a11; have c20 : (w1.alloc (.cells #[.int .i64 v1, .int .i64 v2] 37)).cell? ⟨w.heap.size + 2, 0, none⟩ = some (.int .i64 0) := (KF1.out.alloc _).cell 0; have d20 : (w1.alloc (.cells #[.int .i64 v1, .int .i64 v2] 37)).frozen? ⟨w.heap.size + 2, 0, none⟩ = false := (KF1.out.alloc _).froz 0; have c21 : (w1.alloc (.cells #[.int .i64 v1, .int .i64 v2] 37)).cell? ⟨w.heap.size + 2, 1, none⟩ = some (.int .i64 0) := (KF1.out.alloc _).cell 1; have d21 : (w1.alloc (.cells #[.int .i64 v1, .int .i64 v2] 37)).frozen? ⟨w.heap.size + 2, 1, none⟩ = false := (KF1.out.alloc _).froz 1; have e20 : (w1.alloc (.cells #[.int .i64 v1, .int .i64 v2] 37)).cell? ⟨w.heap.size + 1, 0, none⟩ = some (.string hm) := (KH1.out.alloc _).cell 0; have e21 : (w1.alloc (.cells #[.int .i64 v1, .int .i64 v2] 37)).cell? ⟨w.heap.size + 1, 1, none⟩ = some (.string ht) := (KH1.out.alloc _).cell 1; have e22 : (w1.alloc (.cells #[.int .i64 v1, .int .i64 v2] 37)).cell? ⟨w.heap.size + 1, 2, none⟩ = some (.int .i64 hk) := (KH1.out.alloc _).cell 2; have e23 : (w1.alloc (.cells #[.int .i64 v1, .int .i64 v2] 37)).cell? ⟨w.heap.size + 1, 3, none⟩ = some (.int .i64 101) := (KH1.out.alloc _).cell 3; have e24 : (w1.alloc (.cells #[.int .i64 v1, .int .i64 v2] 37)).cell? ⟨w.heap.size + 1, 4, none⟩ = some (.string hr) := (KH1.out.alloc _).cell 4; have e25 : (w1.alloc (.cells #[.int .i64 v1, .int .i64 v2] 37)).cell? ⟨w.heap.size + 1, 5, none⟩ = some f := (KH1.out.alloc _).cell 5)
   exact bodyPost_ret (results_agg_tmp Tryz.results94 _ _ _ _ rfl (run_loadVar_row _ _ _ _ _ _ _ (blk_set2 (KF1.out.alloc _) _ _) Tryz.underlying37 rfl (by kernel_rfl))) rfl ⟨rfl, ((B1.out.alloc B1.out.size _).setCell (two_le _) _).setCell (two_le _) _⟩
  ·rw [if_neg (fun e => h1 e.2)]
   have q1 : (hn == 101) = false := by rw [beq_eq_false_iff_ne]; exact h1
   clear h1
   have K0 := lH (((Blk.new w #[.string x, .bool closed, .int .i64 a, .int .i64 fields, .int .i64 c, .int .i64 d, .int .i64 fold, .int .i64 2] 84).alloc (.cells #[.string hm, .string ht, .int .i64 hk, .int .i64 hn, .string hr, f] 34)).alloc (.cells #[.int .i64 0, .int .i64 0] 37))
   have KH0 : Blk (((w.alloc (.cells #[.string x, .bool closed, .int .i64 a, .int .i64 fields, .int .i64 c, .int .i64 d, .int .i64 fold, .int .i64 2] 84)).alloc (.cells #[.string hm, .string ht, .int .i64 hk, .int .i64 hn, .string hr, f] 34)).alloc (.cells #[.int .i64 0, .int .i64 0] 37)) (w.heap.size + 1) #[.string hm, .string ht, .int .i64 hk, .int .i64 hn, .string hr, f] 34 := (Blk.new' (by simp)).alloc _
   have KF0 : Blk (((w.alloc (.cells #[.string x, .bool closed, .int .i64 a, .int .i64 fields, .int .i64 c, .int .i64 d, .int .i64 fold, .int .i64 2] 84)).alloc (.cells #[.string hm, .string ht, .int .i64 hk, .int .i64 hn, .string hr, f] 34)).alloc (.cells #[.int .i64 0, .int .i64 0] 37)) (w.heap.size + 2) #[.int .i64 0, .int .i64 0] 37 := Blk.new' (by simp)
   replace KH0 := lH KH0
   replace KF0 := lH KF0
   have B0 := lH ((((Below.refl w.heap.size w).alloc (nR _) (.cells #[.string x, .bool closed, .int .i64 a, .int .i64 fields, .int .i64 c, .int .i64 d, .int .i64 fold, .int .i64 2] 84)).alloc (by simp) (.cells #[.string hm, .string ht, .int .i64 hk, .int .i64 hn, .string hr, f] 34)).alloc (by simp; omega) (.cells #[.int .i64 0, .int .i64 0] 37))
   have F0 := lH (hf.below B0.out)
   have y07 := K0.out.cell 7
   simp at y07
   have h00 := KH0.out.cell 0
   have gh00 := KH0.out.froz 0
   have h01 := KH0.out.cell 1
   have gh01 := KH0.out.froz 1
   have h02 := KH0.out.cell 2
   have gh02 := KH0.out.froz 2
   have h03 := KH0.out.cell 3
   have gh03 := KH0.out.froz 3
   have h04 := KH0.out.cell 4
   have gh04 := KH0.out.froz 4
   have h05 := KH0.out.cell 5
   have gh05 := KH0.out.froz 5
   simp at h00 h01 h02 h03 h04 h05
   have a00 := KF0.out.cell 0
   have ga00 := KF0.out.froz 0
   have a01 := KF0.out.cell 1
   have ga01 := KF0.out.froz 1
   simp at a00 a01
   clear hf
   go_enter Tryz.func94, Tryz.ntmps94
   go_wp2_with (go_at_call 25; refine (HQ.out _ F0.out).mono ?_; rintro e1 w1 ⟨rfl, hb⟩; have KH1 := lH (KH0.out.call hb); have KF1 := lH (KF0.out.call hb); have B1 := lH (B0.out.trans (hb.mono B0.out.size)); clear hb; have h10 := KH1.out.cell 0; have gh10 := KH1.out.froz 0; have h11 := KH1.out.cell 1; have gh11 := KH1.out.froz 1; have h12 := KH1.out.cell 2; have gh12 := KH1.out.froz 2; have h13 := KH1.out.cell 3; have gh13 := KH1.out.froz 3; have h14 := KH1.out.cell 4; have gh14 := KH1.out.froz 4; have h15 := KH1.out.cell 5; have gh15 := KH1.out.froz 5; simp at h10 h11 h12 h13 h14 h15; have a10 := KF1.out.cell 0; have ga10 := KF1.out.froz 0; have a11 := KF1.out.cell 1; have ga11 := KF1.out.froz 1; simp at a10 a11; have c20 : (w1.alloc (.cells #[.int .i64 v1, .int .i64 v2] 37)).cell? ⟨w.heap.size + 2, 0, none⟩ = some (.int .i64 0) := (KF1.out.alloc _).cell 0; have d20 : (w1.alloc (.cells #[.int .i64 v1, .int .i64 v2] 37)).frozen? ⟨w.heap.size + 2, 0, none⟩ = false := (KF1.out.alloc _).froz 0; have c21 : (w1.alloc (.cells #[.int .i64 v1, .int .i64 v2] 37)).cell? ⟨w.heap.size + 2, 1, none⟩ = some (.int .i64 0) := (KF1.out.alloc _).cell 1; have d21 : (w1.alloc (.cells #[.int .i64 v1, .int .i64 v2] 37)).frozen? ⟨w.heap.size + 2, 1, none⟩ = false := (KF1.out.alloc _).froz 1; have e20 : (w1.alloc (.cells #[.int .i64 v1, .int .i64 v2] 37)).cell? ⟨w.heap.size + 1, 0, none⟩ = some (.string hm) := (KH1.out.alloc _).cell 0; have e21 : (w1.alloc (.cells #[.int .i64 v1, .int .i64 v2] 37)).cell? ⟨w.heap.size + 1, 1, none⟩ = some (.string ht) := (KH1.out.alloc _).cell 1; have e22 : (w1.alloc (.cells #[.int .i64 v1, .int .i64 v2] 37)).cell? ⟨w.heap.size + 1, 2, none⟩ = some (.int .i64 hk) := (KH1.out.alloc _).cell 2; have e23 : (w1.alloc (.cells #[.int .i64 v1, .int .i64 v2] 37)).cell? ⟨w.heap.size + 1, 3, none⟩ = some (.int .i64 hn) := (KH1.out.alloc _).cell 3; have e24 : (w1.alloc (.cells #[.int .i64 v1, .int .i64 v2] 37)).cell? ⟨w.heap.size + 1, 4, none⟩ = some (.string hr) := (KH1.out.alloc _).cell 4; have e25 : (w1.alloc (.cells #[.int .i64 v1, .int .i64 v2] 37)).cell? ⟨w.heap.size + 1, 5, none⟩ = some f := (KH1.out.alloc _).cell 5)
   exact bodyPost_ret (results_agg_tmp Tryz.results94 _ _ _ _ rfl (run_loadVar_row _ _ _ _ _ _ _ (blk_set2 (KF1.out.alloc _) _ _) Tryz.underlying37 rfl (by kernel_rfl))) rfl ⟨rfl, ((B1.out.alloc B1.out.size _).setCell (two_le _) _).setCell (two_le _) _⟩
 ·rw [if_neg (fun e => h0 e.1)]
  have q0 : (v3 == 0) = false := by rw [beq_eq_false_iff_ne]; exact h0
  clear h0
  have K0 := lH (((Blk.new w #[.string x, .bool closed, .int .i64 a, .int .i64 fields, .int .i64 c, .int .i64 d, .int .i64 fold, .int .i64 2] 84).alloc (.cells #[.string hm, .string ht, .int .i64 hk, .int .i64 hn, .string hr, f] 34)).alloc (.cells #[.int .i64 0, .int .i64 0] 37))
  have KH0 : Blk (((w.alloc (.cells #[.string x, .bool closed, .int .i64 a, .int .i64 fields, .int .i64 c, .int .i64 d, .int .i64 fold, .int .i64 2] 84)).alloc (.cells #[.string hm, .string ht, .int .i64 hk, .int .i64 hn, .string hr, f] 34)).alloc (.cells #[.int .i64 0, .int .i64 0] 37)) (w.heap.size + 1) #[.string hm, .string ht, .int .i64 hk, .int .i64 hn, .string hr, f] 34 := (Blk.new' (by simp)).alloc _
  have KF0 : Blk (((w.alloc (.cells #[.string x, .bool closed, .int .i64 a, .int .i64 fields, .int .i64 c, .int .i64 d, .int .i64 fold, .int .i64 2] 84)).alloc (.cells #[.string hm, .string ht, .int .i64 hk, .int .i64 hn, .string hr, f] 34)).alloc (.cells #[.int .i64 0, .int .i64 0] 37)) (w.heap.size + 2) #[.int .i64 0, .int .i64 0] 37 := Blk.new' (by simp)
  replace KH0 := lH KH0
  replace KF0 := lH KF0
  have B0 := lH ((((Below.refl w.heap.size w).alloc (nR _) (.cells #[.string x, .bool closed, .int .i64 a, .int .i64 fields, .int .i64 c, .int .i64 d, .int .i64 fold, .int .i64 2] 84)).alloc (by simp) (.cells #[.string hm, .string ht, .int .i64 hk, .int .i64 hn, .string hr, f] 34)).alloc (by simp; omega) (.cells #[.int .i64 0, .int .i64 0] 37))
  have F0 := lH (hf.below B0.out)
  have y07 := K0.out.cell 7
  simp at y07
  have h00 := KH0.out.cell 0
  have gh00 := KH0.out.froz 0
  have h01 := KH0.out.cell 1
  have gh01 := KH0.out.froz 1
  have h02 := KH0.out.cell 2
  have gh02 := KH0.out.froz 2
  have h03 := KH0.out.cell 3
  have gh03 := KH0.out.froz 3
  have h04 := KH0.out.cell 4
  have gh04 := KH0.out.froz 4
  have h05 := KH0.out.cell 5
  have gh05 := KH0.out.froz 5
  simp at h00 h01 h02 h03 h04 h05
  have a00 := KF0.out.cell 0
  have ga00 := KF0.out.froz 0
  have a01 := KF0.out.cell 1
  have ga01 := KF0.out.froz 1
  simp at a00 a01
  clear hf
  go_enter Tryz.func94, Tryz.ntmps94
  go_wp2_with (go_at_call 25; refine (HQ.out _ F0.out).mono ?_; rintro e1 w1 ⟨rfl, hb⟩; have KH1 := lH (KH0.out.call hb); have KF1 := lH (KF0.out.call hb); have B1 := lH (B0.out.trans (hb.mono B0.out.size)); clear hb; have h10 := KH1.out.cell 0; have gh10 := KH1.out.froz 0; have h11 := KH1.out.cell 1; have gh11 := KH1.out.froz 1; have h12 := KH1.out.cell 2; have gh12 := KH1.out.froz 2; have h13 := KH1.out.cell 3; have gh13 := KH1.out.froz 3; have h14 := KH1.out.cell 4; have gh14 := KH1.out.froz 4; have h15 := KH1.out.cell 5; have gh15 := KH1.out.froz 5; simp at h10 h11 h12 h13 h14 h15; have a10 := KF1.out.cell 0; have ga10 := KF1.out.froz 0; have a11 := KF1.out.cell 1; have ga11 := KF1.out.froz 1; simp at a10 a11; have c20 : (w1.alloc (.cells #[.int .i64 v1, .int .i64 v2] 37)).cell? ⟨w.heap.size + 2, 0, none⟩ = some (.int .i64 0) := (KF1.out.alloc _).cell 0; have d20 : (w1.alloc (.cells #[.int .i64 v1, .int .i64 v2] 37)).frozen? ⟨w.heap.size + 2, 0, none⟩ = false := (KF1.out.alloc _).froz 0; have c21 : (w1.alloc (.cells #[.int .i64 v1, .int .i64 v2] 37)).cell? ⟨w.heap.size + 2, 1, none⟩ = some (.int .i64 0) := (KF1.out.alloc _).cell 1; have d21 : (w1.alloc (.cells #[.int .i64 v1, .int .i64 v2] 37)).frozen? ⟨w.heap.size + 2, 1, none⟩ = false := (KF1.out.alloc _).froz 1; have e20 : (w1.alloc (.cells #[.int .i64 v1, .int .i64 v2] 37)).cell? ⟨w.heap.size + 1, 0, none⟩ = some (.string hm) := (KH1.out.alloc _).cell 0; have e21 : (w1.alloc (.cells #[.int .i64 v1, .int .i64 v2] 37)).cell? ⟨w.heap.size + 1, 1, none⟩ = some (.string ht) := (KH1.out.alloc _).cell 1; have e22 : (w1.alloc (.cells #[.int .i64 v1, .int .i64 v2] 37)).cell? ⟨w.heap.size + 1, 2, none⟩ = some (.int .i64 hk) := (KH1.out.alloc _).cell 2; have e23 : (w1.alloc (.cells #[.int .i64 v1, .int .i64 v2] 37)).cell? ⟨w.heap.size + 1, 3, none⟩ = some (.int .i64 hn) := (KH1.out.alloc _).cell 3; have e24 : (w1.alloc (.cells #[.int .i64 v1, .int .i64 v2] 37)).cell? ⟨w.heap.size + 1, 4, none⟩ = some (.string hr) := (KH1.out.alloc _).cell 4; have e25 : (w1.alloc (.cells #[.int .i64 v1, .int .i64 v2] 37)).cell? ⟨w.heap.size + 1, 5, none⟩ = some f := (KH1.out.alloc _).cell 5)
  exact bodyPost_ret (results_agg_tmp Tryz.results94 _ _ _ _ rfl (run_loadVar_row _ _ _ _ _ _ _ (blk_set2 (KF1.out.alloc _) _ _) Tryz.underlying37 rfl (by kernel_rfl))) rfl ⟨rfl, ((B1.out.alloc B1.out.size _).setCell (two_le _) _).setCell (two_le _) _⟩
theorem frame_any (x : ByteArray) (closed : Bool) (a fields c d fold kind : Int) (hk : kind = 1 ∨ kind = 2) (h : Hd) (f : Value) (method : ByteArray) (w : World) (hf : Flds w f h.fs) (ok : FdsOk h.fs) :
 Calls Tryz.prog 94 #[.agg #[.string x, .bool closed, .int .i64 a, .int .i64 fields, .int .i64 c, .int .i64 d, .int .i64 fold, .int .i64 kind], .agg #[.string h.m, .string h.t, .int .i64 h.k, .int .i64 h.n, .string h.r, f], .string method] w fun e w' => e = .returned (.tuple #[.agg #[.int .i64 (frmP kind h method).1, .int .i64 (frmP kind h method).2.1], .int .i64 (frmP kind h method).2.2]) ∧ Below w.heap.size w w' := by
 rcases hk with rfl | rfl
 ·exact frame_any1 x closed a fields c d fold h f method w hf ok
 ·exact frame_any2 x closed a fields c d fold h f method w hf ok
end Go.Proofs.YtaojfiegnebbdaaGreatDoor
-- MsF
namespace Go.Proofs.YtaojfiegnebbdaaGreatDoor
open Go.RowKit
def szF (l : List Fd) : Nat := (l.map fun f => f.1.size + f.2.size).sum
theorem szF_cons (f : Fd) (l : List Fd) : szF (f :: l) = f.1.size + f.2.size + szF l := by unfold szF; simp
theorem preL_len (l : List UInt8) : (preL l).length ≤ l.length := by
 unfold preL
 induction l with
 | nil => exact nR _
 | cons a l ih =>
   rw [List.takeWhile_cons]
   split
   ·simpa using ih
   ·exact Nat.zero_le _
theorem fparse_size (s : ByteArray) : (fparse s).1.1.size + (fparse s).1.2.size ≤ s.size := by
 unfold fparse
 split
 ·exact Nat.zero_le _
 split
 ·exact Nat.zero_le _
 split
 ·exact Nat.zero_le _
 ·have h1 := preL_len s.data.toList
  have h2 := trimB_size ⟨(s.data.toList.drop ((preL s.data.toList).length + 1)).toArray⟩
  have e0 : s.data.toList.length = s.size := (Lib.size_eq s).symm
  have e1 : (⟨(preL s.data.toList).toArray⟩ : ByteArray).size = (preL s.data.toList).length := by rw [Lib.size_eq]
  have e2 : (⟨(s.data.toList.drop ((preL s.data.toList).length + 1)).toArray⟩ : ByteArray).size = s.data.toList.length - ((preL s.data.toList).length + 1) := by
   rw [Lib.size_eq]
   exact List.length_drop
  simp only
  omega
theorem pAcc_size : ∀ l : List ByteArray, szF (pAcc l).1 ≤ tot l
 | [] => nR _
 | s :: l => by
   have ih := pAcc_size l
   unfold pAcc
   split
   ·exact Nat.zero_le _
   split
   ·exact Nat.zero_le _
   ·have := fparse_size s
    show szF ((fparse s).1 :: (pAcc l).1) ≤ _
    rw [szF_cons, tot_cons]
    omega
theorem allF_size (fold : Int) (l : List ByteArray) : szF (allF fold l).1 ≤ tot l + l.length := by
 unfold allF
 cases h : ufold fold l with
 | none => exact Nat.zero_le _
 | some out =>
   have h1 := ufold_tot fold l l.length (nR _) out (by rw [List.take_of_length_le (nR _)]; exact h)
   rw [List.take_of_length_le (nR _)] at h1
   exact nT (pAcc_size out) h1
theorem headP_size (kind fields fold : Int) (l : List ByteArray) : szF (headP kind fields fold l).1.fs ≤ tot l + l.length := by
 unfold headP
 split
 ·exact Nat.zero_le _
 cases l with
 | nil => exact Nat.zero_le _
 | cons s rest =>
   simp only
   split
   ·exact Nat.zero_le _
   split
   ·exact Nat.zero_le _
   split
   ·exact Nat.zero_le _
   ·have := allF_size fold rest
    rw [tot_cons, List.length_cons]
    show szF (allF fold rest).1 ≤ _
    omega
theorem scanP_size (kind fields fold : Int) : ∀ (L : List (List UInt8)) (at_ : Nat) (got : List ByteArray) (h : Hd × Int) (u : Nat) (z : List ByteArray), scanP kind fields fold L at_ got = (some (h, u), z) → ∃ g : List ByteArray, h = headP kind fields fold g ∧ tot g + g.length + at_ ≤ u + tot got + got.length
 | [], _, _, _, _, _, e => by cases e
 | l :: r, at_, got, h, u, z, e => by
   rw [scanP] at e
   by_cases h1 : l ≠ []
   ·rw [if_pos h1] at e
    obtain ⟨g, h2, h3⟩ := scanP_size kind fields fold r _ _ h u z e
    refine ⟨g, h2, ?_⟩
    rw [tot_snoc, List.length_append] at h3
    have e2 : (strL l).size = l.length := strL_size l
    simp only [List.length_cons, List.length_nil] at h3
    omega
   ·rw [if_neg h1] at e
    by_cases h2 : got ≠ [] ∨ kind = 2
    ·rw [if_pos h2] at e
     injection e with e1 _
     injection e1 with e1
     injection e1 with e1 e2
     exact ⟨got, e1.symm, by omega⟩
    ·rw [if_neg h2] at e
     obtain ⟨g, h3, h4⟩ := scanP_size kind fields fold r _ _ h u z e
     exact ⟨g, h3, by omega⟩
theorem got_size (kind fields fold most : Int) (x : List UInt8) (hf : (gotP kind fields fold most x).fin = true) : szF (gotP kind fields fold most x).hd.fs ≤ x.length ∧ (gotP kind fields fold most x).hd.fs.length ≤ x.length := by
 have hp := par_got kind fields fold most x
 have hle := pRun_le kind fields fold x (pa0 most)
 have hu := hp.u
 revert hf hu
 unfold gotP
 generalize (rdL most x 0 [] false).2 = q
 obtain ⟨z1, z2⟩ : ∃ z, z = scanP kind fields fold (rdL most x 0 [] false).1 0 [] := ⟨_, rfl⟩
 rw [← z2]
 obtain ⟨a, b⟩ := z1
 cases a with
 | none => intro hf; cases hf
 | some hu =>
   obtain ⟨h, u⟩ := hu
   intro _ hu
   obtain ⟨g, h1, h2⟩ := scanP_size kind fields fold _ _ _ h u b z2.symm
   have hu' : ((pRun kind fields fold x (pa0 most)).2 : Int) = (u : Int) := hu
   have s1 := headP_size kind fields fold g
   have s2 := headP_len kind fields fold g
   rw [← h1] at s1 s2
   have e0 : tot ([] : List ByteArray) = 0 := rfl
   rw [e0] at h2
   simp only [List.length_nil] at h2
   constructor
   ·show szF h.1.fs ≤ _
    omega
   ·show h.1.fs.length ≤ _
    omega
theorem joinL_tot : ∀ l : List ByteArray, (joinL l).size ≤ tot l + 2 * l.length
 | [] => nR _
 | [s] => by
   rw [tot_cons]
   show s.size ≤ _
   omega
 | s :: t :: l => by
   have ih := joinL_tot (t :: l)
   have e : joinL (s :: t :: l) = s ++ ⟨#[44, 32]⟩ ++ joinL (t :: l) := rfl
   have e2 : (⟨#[44, 32]⟩ : ByteArray).size = 2 := rfl
   rw [e, ByteArray.size_append, ByteArray.size_append, e2, tot_cons, List.length_cons]
   omega
theorem allB_size (n : ByteArray) : ∀ fs : List Fd, tot (allB fs n) ≤ szF fs ∧ (allB fs n).length ≤ fs.length
 | [] => ⟨nR _, nR _⟩
 | f :: l => by
   have ih := allB_size n l
   unfold allB at ih ⊢
   rw [List.filter_cons]
   split
   ·rw [List.map_cons, tot_cons, szF_cons, List.length_cons, List.length_cons]
    omega
   ·rw [szF_cons, List.length_cons]
    omega
theorem fdsOk_size {fs : List Fd} {N : Nat} (h1 : szF fs ≤ N) (h2 : fs.length ≤ N) (hN : N ≤ 100000) : FdsOk fs := by
 have hm : ∀ g ∈ fs, g.1.size + g.2.size ≤ szF fs := by
  intro g hg
  clear h1 h2
  induction fs with
  | nil => cases hg
  | cons f l ih =>
    rw [szF_cons]
    rcases List.mem_cons.1 hg with rfl | hg
    ·omega
    ·have := ih hg
     omega
 refine ⟨by omega, fun g hg => by have := hm g hg; omega, fun g hg => by have := hm g hg; omega, ?_⟩
 have a := joinL_tot (allB fs teB)
 have b := allB_size teB fs
 omega
theorem bStep_till (m : Lm) (s : BdS) (x : List UInt8) : (bStep m s x).1.till = s.till := by
 have hs : ∀ y, (s.some y).1.till = s.till := fun _ => rfl
 have hw : ∀ y, (s.whole y).1.till = s.till := fun y => by
  unfold BdS.whole
  simp only
  split
  ·rfl
  ·rfl
 unfold bStep
 cases s.md <;> (try simp only) <;> (repeat' split) <;> first | rfl | exact hs x | exact hw x
theorem bRun_till (m : Lm) : ∀ (f : Nat) (s : BdS) (x : List UInt8), (bRun m f s x).1.till = s.till
 | 0, _, _ => rfl
 | f + 1, s, x => by
   rw [bRun]
   split
   ·rfl
   ·show (bRun m f _ _).1.till = _
    rw [bRun_till m f, bStep_till]
theorem bRun_shut (m : Lm) : ∀ (f : Nat) (s : BdS) (x : List UInt8), s.opens = false → bRun m f s x = (s, 0)
 | 0, _, _, _ => rfl
 | f + 1, s, x, h => by rw [bRun, if_pos (Or.inr h)]
theorem bNew_till (m : Lm) (k n : Int) : (bNew m k n).opens = true → (bNew m k n).till = decide (k = 3) := by
 unfold bNew
 simp only
 split
 ·intro h
  rw [wrong_shut _ (by decide)] at h
  cases h
 split
 ·intro h; cases h
 split
 ·split
  ·intro h; cases h
  ·rename_i h1 _
   intro _
   subst h1
   rfl
 split
 ·rename_i h1
  intro _
  subst h1
  rfl
 split
 ·rename_i h1
  intro _
  subst h1
  rfl
 ·intro h
  rw [wrong_shut _ (by decide)] at h
  cases h
theorem bFeed_till (m : Lm) (k n : Int) (x : List UInt8) (h : (bFeed m (bNew m k n) x).1.opens = true) : (bFeed m (bNew m k n) x).1.till = decide (k = 3) := by
 unfold bFeed at h ⊢
 rw [bRun_till]
 cases ho : (bNew m k n).opens with
 | true => exact bNew_till m k n ho
 | false =>
   rw [bRun_shut _ _ _ _ ho, ho] at h
   cases h
end Go.Proofs.YtaojfiegnebbdaaGreatDoor
-- MsC
namespace Go.Proofs.YtaojfiegnebbdaaGreatDoor
open Go.RowKit
theorem BdAt.apart {P : Nat → Prop} {w w1 : World} {D n0 : Nat} {m : Lm} {s : BdS} {V : BdV} (h : BdAt w D n0 m s V) (t : Touch P w w1) (hP : OfTy w P [46, 3]) : BdAt w1 D n0 m s V :=
 ⟨h.k.touch t (hP.not h.k (by decide)), h.d, own_touch h.o t (hP.own h.o (by decide)), ⟨own_touch h.r.a t (hP.own h.r.a (by decide)), own_touch h.r.t t (hP.own h.r.t (by decide)), fun e => (h.r.n e).touch t hP (by decide) (by decide) (by decide), fun e => (h.r.l e).touch t hP (by decide) (by decide), h.r.u, h.r.f⟩⟩
structure NxAt (w W : World) (S0 : Nat) (R : Array Value) (G : Nat) (h : Hd) (f : Value) (fk fl : Int) (bd : ByteArray) (z t : Value) (sz : List Int) : Prop where
 b : Below w.heap.size w W
 s : Blk W S0 R 84
 g : Blk W G (msRow h f fk fl bd z t) 46
 gl : w.heap.size ≤ G
 o : OwnF W w.heap.size f h.fs
 i : OwnI W w.heap.size z sz
section
variable {w W W1 : World} {S0 : Nat} {R : Array Value} {G : Nat} {h : Hd} {f : Value} {fk fl : Int} {bd : ByteArray} {z t : Value} {sz : List Int}
theorem NxAt.call (a : NxAt w W S0 R G h f fk fl bd z t sz) (hb : Below W.heap.size W W1) : NxAt w W1 S0 R G h f fk fl bd z t sz :=
 ⟨a.b.trans (hb.mono a.b.size), a.s.call hb, a.g.call hb, a.gl, a.o.call hb, a.i.call hb⟩
theorem NxAt.bod {D n0 : Nat} {m : Lm} {s : BdS} {V V1 : BdV} (a : NxAt w W S0 R G h f fk fl bd z t sz) (d : BdAt W D n0 m s V) (go : BdGo W W1 D V V1) (hn : w.heap.size ≤ n0) : NxAt w W1 S0 R G h f fk fl bd z t sz :=
 ⟨a.b.trans ((d.below go).mono hn), a.s.touch go.t (d.far a.s (by decide)), a.g.touch go.t (d.far a.g (by decide)), a.gl, own_touch a.o go.t (fun k hk => by obtain ⟨_, cs, hb⟩ := own_ty a.o k hk; exact d.far hb (by decide)), own_touch a.i go.t (fun k hk => by obtain ⟨_, cs, hb⟩ := own_ty a.i k hk; exact d.far hb (by decide))⟩
theorem NxAt.ty (a : NxAt w W S0 R G h f fk fl bd z t sz) : OfTy W (fun j => j = G ∨ z.ownBlock = some j) [46, 3] := fun j hj => by
 rcases hj with rfl | hj
 ·exact ⟨_, _, by decide, a.g⟩
 ·obtain ⟨_, cs, hb⟩ := own_ty a.i j hj
  exact ⟨_, _, by decide, hb⟩
theorem NxAt.gath (a : NxAt w W S0 R G h f fk fl bd z t sz) {bd' : ByteArray} {z' : Value} {sz' : List Int} (q : GmAt W W1 G w.heap.size z h f fk fl bd' z' t sz') : NxAt w W1 S0 R G h f fk fl bd' z' t sz' :=
 ⟨a.b.trans (q.t.below (fun k _ hk => by
  rcases hk with rfl | hk
  ·exact a.gl
  ·exact (own_ty a.i k hk).1) a.b.size), a.s.touch q.t (a.ty.not a.s (by decide)), q.k, a.gl, own_touch a.o q.t (a.ty.own a.o (by decide)), q.s⟩
theorem NxAt.ofG (a : NxAt w W S0 R G h f fk fl bd z t sz) : OfTy W (fun j => j = G) [46] := fun j e => ⟨_, _, by decide, e ▸ a.g⟩
theorem NxAt.frame (a : NxAt w W S0 R G h f fk fl bd z t sz) (x y : Int) : NxAt w ((W.setCell ⟨G, 6, none⟩ (.int .i64 x)).setCell ⟨G, 7, none⟩ (.int .i64 y)) S0 R G h f x y bd z t sz := by
 have T : Touch (fun j => j = G) W ((W.setCell ⟨G, 6, none⟩ (.int .i64 x)).setCell ⟨G, 7, none⟩ (.int .i64 y)) := ((Touch.refl (fun j => j = G) W).setCell (p := ⟨G, 6, none⟩) rfl _).setCell (p := ⟨G, 7, none⟩) rfl _
 exact ⟨(a.b.setCell (p := ⟨G, 6, none⟩) a.gl _).setCell (p := ⟨G, 7, none⟩) a.gl _, a.s.touch T (a.ofG.not a.s (by decide)), (a.g.set 6 _).set 7 _, a.gl, own_touch a.o T (a.ofG.own a.o (by decide)), own_touch a.i T (a.ofG.own a.i (by decide))⟩
theorem NxAt.trail (a : NxAt w W S0 R G h f fk fl bd z t sz) (t' : Value) : NxAt w (W.setCell ⟨G, 10, none⟩ t') S0 R G h f fk fl bd z t' sz := by
 have T : Touch (fun j => j = G) W (W.setCell ⟨G, 10, none⟩ t') := (Touch.refl (fun j => j = G) W).setCell (p := ⟨G, 10, none⟩) rfl _
 exact ⟨a.b.setCell (p := ⟨G, 10, none⟩) a.gl _, a.s.touch T (a.ofG.not a.s (by decide)), a.g.set 10 _, a.gl, own_touch a.o T (a.ofG.own a.o (by decide)), own_touch a.i T (a.ofG.own a.i (by decide))⟩
end
theorem nnew_any (kind a fields c d fold : Int) (h0 : 0 ≤ a) (h1 : a ≤ 65536) (hk : kind = 1 ∨ kind = 2) (w : World) :
 Calls Tryz.prog 32 #[.int .i64 kind, .agg #[.int .i64 a, .int .i64 fields, .int .i64 c, .int .i64 d, .int .i64 fold]] w fun e w' => ∃ b g, e = .returned (.pointer (some ⟨b, 0, none⟩)) ∧ PaAt w' b g (b + 1) nilS nilS nilS kind a fields c d fold (pa0 a) ∧ Below w.heap.size w w' ∧ w.heap.size ≤ b ∧ w.heap.size ≤ g :=
 (hnew_any kind a fields c d fold h0 h1 hk w).mono fun _ _ ⟨h1, h2, h3⟩ => ⟨_, _, h1, h2, h3, by omega, by omega⟩
theorem nfeed_any {W : World} {b g : Nat} {kind a fields c d fold : Int} (h : PaAt W b g (b + 1) nilS nilS nilS kind a fields c d fold (pa0 a)) (h0 : 0 ≤ a) (h1 : a ≤ 65536) (hfi : -9223372036854775808 ≤ fields ∧ fields ≤ 9223372036854775807) {mx : Int} (hm : W.cell? ⟨0, 0, none⟩ = some (.int .i64 mx))
 {X : List UInt8} {P1 : PaS} {P2 : Nat} (hP : pRun kind fields fold X (pa0 a) = (P1, P2)) (S : ByteArray) (hS : S.data.toList = X) (hz : S.size ≤ 1000000) :
 Calls Tryz.prog 51 #[.pointer (some ⟨b, 0, none⟩), .string S] W fun e w' => e = .returned (.tuple #[.int .i64 (P2 : Int), .int .i64 P1.e]) ∧ (∃ vl va vf, PaAt w' b g (b + 1) vl va vf kind a fields c d fold P1) ∧ Touch (fun j => j = b ∨ j = g) W w' := by
 have hf := pfeed_any h (pa0_bd h0 h1) hfi hm S hz
 rw [hS, hP] at hf
 refine hf.mono ?_
 rintro e w' ⟨rfl, vl, va, vf, h2, _, t, _, _⟩
 refine ⟨rfl, ⟨vl, va, vf, h2⟩, ?_⟩
 refine touch_into (Touch.refl _ W) t (fun i _ hi => ?_)
 rcases hi with rfl | rfl | hi | hi
 ·exact Or.inl rfl
 ·exact Or.inr rfl
 ·cases hi
 ·cases hi
theorem pa_below {w W W1 : World} {b g : Nat} (hB : Below w.heap.size w W) (hb : w.heap.size ≤ b) (hg : w.heap.size ≤ g) (t : Touch (fun j => j = b ∨ j = g) W W1) : Below w.heap.size w W1 :=
 hB.trans (t.below (fun k _ hk => by rcases hk with rfl | rfl <;> assumption) hB.size)
theorem drop_str (x : ByteArray) (n : Nat) : (x.extract n x.size).data.toList = x.data.toList.drop n := by
 have h := Lib.size_eq x
 rw [ByteArray.data_extract, Array.toList_extract, List.extract_eq_take_drop]
 exact List.take_of_length_le (by rw [List.length_drop]; omega)
theorem dropx_size (x : ByteArray) (n : Nat) : (x.extract n x.size).size ≤ x.size := by
 rw [ByteArray.size_extract]
 omega
end Go.Proofs.YtaojfiegnebbdaaGreatDoor
-- MsT
namespace Go.Proofs.YtaojfiegnebbdaaGreatDoor
open Go.RowKit
theorem totT_snoc (l : List Pc) (p : Pc) : totT (l ++ [p]) = totT l + p.t.size := by unfold totT; rw [List.map_append, List.sum_append]; simp
theorem wrong_tot (s : BdS) (e : Int) : totT (s.wrong e).out = totT s.out := by
 show totT (s.out ++ [_]) = _
 rw [totT_snoc]
 rfl
theorem ends_tot (s : BdS) : totT s.ends.out = totT s.out := by
 show totT (s.out ++ [_]) = _
 rw [totT_snoc]
 rfl
theorem some_tot (s : BdS) (x : List UInt8) : totT (s.some x).1.out ≤ totT s.out + (s.some x).2 := by
 show totT (s.out ++ [_]) ≤ totT s.out + (min (x.length : Int) s.left).toNat
 rw [totT_snoc]
 have : (⟨(x.take (min (x.length : Int) s.left).toNat).toArray⟩ : ByteArray).size ≤ (min (x.length : Int) s.left).toNat := by
  rw [Lib.size_eq]
  exact List.length_take_le _ _
 exact Nat.add_le_add_left this _
theorem whole_tot (s : BdS) (x : List UInt8) : totT (s.whole x).1.out = totT s.out := by
 unfold BdS.whole
 simp only
 split
 ·rfl
 ·exact wrong_tot _ _
theorem bStep_tot (m : Lm) (s : BdS) (x : List UInt8) : totT (bStep m s x).1.out ≤ totT s.out + (bStep m s x).2 := by
 have hw := whole_tot s x
 unfold bStep
 cases s.md
 case nothing => exact nR _
 case rest =>
  show totT (s.out ++ [_]) ≤ totT s.out + x.length
  rw [totT_snoc]
  have : (⟨x.toArray⟩ : ByteArray).size = x.length := by rw [Lib.size_eq]
  exact Nat.add_le_add_left (Nat.le_of_eq this) _
 case sized =>
  have h := some_tot s x
  simp only
  split
  ·rw [ends_tot]; exact h
  ·exact h
 case data =>
  have h := some_tot s x
  simp only
  split
  ·exact h
  ·exact h
 case cr =>
  simp only
  split
  ·exact Nat.le_add_right _ _
  ·rw [wrong_tot]; exact Nat.le_add_right _ _
 case lf =>
  simp only
  split
  ·exact Nat.le_add_right _ _
  ·rw [wrong_tot]; exact Nat.le_add_right _ _
 case size =>
  simp only
  split
  ·show totT (s.whole x).1.out ≤ _
   rw [hw]; exact Nat.le_add_right _ _
  ·split
   ·rw [wrong_tot]
    show totT (s.whole x).1.out ≤ _
    rw [hw]; exact Nat.le_add_right _ _
   split
   ·show totT (s.whole x).1.out ≤ _
    rw [hw]; exact Nat.le_add_right _ _
   ·show totT ((s.whole x).1.out ++ [_]) ≤ _
    rw [totT_snoc, hw]
    exact Nat.le_add_right _ _
 case trailer =>
  simp only
  split
  ·show totT (s.whole x).1.out ≤ _
   rw [hw]; exact Nat.le_add_right _ _
  ·split
   ·show totT (s.whole x).1.out ≤ _
    rw [hw]; exact Nat.le_add_right _ _
   split
   ·rw [wrong_tot]
    show totT (s.whole x).1.out ≤ _
    rw [hw]; exact Nat.le_add_right _ _
   split
   ·rw [wrong_tot]
    show totT (s.whole x).1.out ≤ _
    rw [hw]; exact Nat.le_add_right _ _
   ·rw [ends_tot]
    show totT (s.whole x).1.out ≤ _
    rw [hw]; exact Nat.le_add_right _ _
theorem bRun_tot (m : Lm) : ∀ (f : Nat) (s : BdS) (x : List UInt8), totT (bRun m f s x).1.out ≤ totT s.out + (bRun m f s x).2
 | 0, _, _ => nR _
 | f + 1, s, x => by
   rw [bRun]
   split
   ·exact nR _
   ·have h1 := bStep_tot m s x
    have h2 := bRun_tot m f (bStep m s x).1 (x.drop (bStep m s x).2)
    show totT (bRun m f _ _).1.out ≤ totT s.out + ((bStep m s x).2 + (bRun m f _ _).2)
    omega
theorem bNew_out (m : Lm) (k n : Int) : (bNew m k n).out.length ≤ 1 ∧ totT (bNew m k n).out = 0 := by
 have h0 : ∀ s : BdS, s.out = [] → (∀ e, (s.wrong e).out.length ≤ 1 ∧ totT (s.wrong e).out = 0) ∧ (s.ends.out.length ≤ 1 ∧ totT s.ends.out = 0) := by
  intro s hs
  refine ⟨fun e => ⟨?_, ?_⟩, ?_, ?_⟩
  ·show (s.out ++ [_]).length ≤ 1; rw [hs]; exact nR _
  ·rw [wrong_tot, hs]; rfl
  ·show (s.out ++ [_]).length ≤ 1; rw [hs]; exact nR _
  ·rw [ends_tot, hs]; rfl
 unfold bNew
 simp only
 split
 ·exact (h0 _ rfl).1 1
 split
 ·exact (h0 _ rfl).2
 split
 ·split
  ·exact (h0 _ rfl).2
  ·exact ⟨Nat.zero_le _, rfl⟩
 split
 ·exact ⟨Nat.zero_le _, rfl⟩
 split
 ·exact ⟨Nat.zero_le _, rfl⟩
 ·exact (h0 _ rfl).1 1
theorem bClose_none (s : BdS) : szO (bClose (bTold s)).out = [] ∧ bdO (bClose (bTold s)).out = [] ∧ (bClose (bTold s)).out.length ≤ 1 ∧ totT (bClose (bTold s)).out = 0 := by
 unfold bClose
 split
 ·split
  ·exact ⟨rfl, rfl, nR _, rfl⟩
  ·exact ⟨rfl, rfl, nR _, rfl⟩
 ·exact ⟨rfl, rfl, Nat.zero_le _, rfl⟩
theorem szO_len (l : List Pc) : (szO l).length ≤ l.length := List.length_filterMap_le _ _
theorem nbnew_any (a fields c d fold kind len : Int) (w : World) :
 Calls Tryz.prog 55 #[.agg #[.int .i64 kind, .int .i64 len], .agg #[.int .i64 a, .int .i64 fields, .int .i64 c, .int .i64 d, .int .i64 fold]] w fun e w' => ∃ D V, e = .returned (.pointer (some ⟨D, 0, none⟩)) ∧ BdAt w' D w.heap.size ⟨a, fields, c, d, fold⟩ (bNew ⟨a, fields, c, d, fold⟩ kind len) V ∧ Below w.heap.size w w' := bnew_any ⟨a, fields, c, d, fold⟩ kind len w
theorem nbfeed_any {W : World} {D n0 : Nat} {m : Lm} {k n : Int} {V : BdV} (h : BdAt W D n0 m (bNew m k n) V) (hn : n ≤ 9223372036854775807) (hn0 : 0 < n0) {mx : Int} (hmx : W.cell? ⟨0, 0, none⟩ = some (.int .i64 mx)) {Y : List UInt8} {F1 : BdS} {F2 : Nat} (hF : bFeed m (bNew m k n) Y = (F1, F2)) (S : ByteArray) (hY : S.data.toList = Y) (hS : S.size ≤ 100000) :
 Calls Tryz.prog 28 #[.pointer (some ⟨D, 0, none⟩), .string S] W fun e w' => ∃ vo V', e = .returned (.tuple #[.int .i64 (F2 : Int), vo]) ∧ BdAt w' D n0 m (bTold F1) V' ∧ OwnPc w' n0 vo F1.out ∧ BdGo W w' D V V' ∧ F1.out.length ≤ 300000 ∧ totT F1.out ≤ 100000 ∧ F1.tr.length ≤ 65536 := by
 have h1 := bfeed_any h (bNew_ok m k n hn) (by have := (bNew_out m k n).1; omega) hn0 hmx S hS
 have hL : S.data.toList.length = S.size := (Lib.size_eq S).symm
 have ht : totT F1.out ≤ 100000 := by
  have e1 : (bFeed m (bNew m k n) Y).1 = F1 := by rw [hF]
  have t1 := bRun_tot m (Y.length + 1) (bNew m k n) Y
  have t2 := (bRun_ok m (Y.length + 1) (bNew m k n) Y (bNew_ok m k n hn)).2
  have t3 := (bNew_out m k n).2
  rw [← e1]
  show totT (bRun m (Y.length + 1) (bNew m k n) Y).1.out ≤ _
  rw [hY] at hL
  omega
 rw [hY, hF] at h1
 exact h1.mono fun _ _ ⟨vo, V', q1, q2, q3, q4, _, q6, q5⟩ => ⟨vo, V', q1, q2, q3, q4, q5, ht, q6.tr⟩
theorem nhead_any {W : World} {b g : Nat} {vl va vf : Value} {kind a fields c d fold : Int} {P1 : PaS} (h : PaAt W b g (b + 1) vl va vf kind a fields c d fold P1) (hl : P1.hd.fs.length ≤ 1000000) {m t r : ByteArray} {k n : Int} {fs : List Fd} (hD : doneH P1 = ⟨m, t, k, n, r, fs⟩) :
 Calls Tryz.prog 53 #[.pointer (some ⟨b, 0, none⟩)] W fun e w' => ∃ f, e = .returned (.agg #[.string m, .string t, .int .i64 k, .int .i64 n, .string r, f]) ∧ OwnF w' W.heap.size f fs ∧ Below W.heap.size W w' := by
 have q := hhead_any h hl
 rw [hD] at q
 exact q
theorem bClose_tr (s : BdS) : (bClose s).tr = s.tr := by
 unfold bClose
 split
 ·split
  ·rfl
  ·rfl
 ·rfl
section
variable {w W : World} {S0 : Nat} {R : Array Value} {G : Nat} {h : Hd} {f : Value} {fk fl : Int} {bd : ByteArray} {z t : Value} {sz : List Int}
theorem NxAt.c0 (a : NxAt w W S0 R G h f fk fl bd z t sz) : W.cell? ⟨G, 0, none⟩ = some (.string h.m) := a.g.cell 0
theorem NxAt.c1 (a : NxAt w W S0 R G h f fk fl bd z t sz) : W.cell? ⟨G, 1, none⟩ = some (.string h.t) := a.g.cell 1
theorem NxAt.c2 (a : NxAt w W S0 R G h f fk fl bd z t sz) : W.cell? ⟨G, 2, none⟩ = some (.int .i64 h.k) := a.g.cell 2
theorem NxAt.c3 (a : NxAt w W S0 R G h f fk fl bd z t sz) : W.cell? ⟨G, 3, none⟩ = some (.int .i64 h.n) := a.g.cell 3
theorem NxAt.c4 (a : NxAt w W S0 R G h f fk fl bd z t sz) : W.cell? ⟨G, 4, none⟩ = some (.string h.r) := a.g.cell 4
theorem NxAt.c5 (a : NxAt w W S0 R G h f fk fl bd z t sz) : W.cell? ⟨G, 5, none⟩ = some f := a.g.cell 5
theorem NxAt.c6 (a : NxAt w W S0 R G h f fk fl bd z t sz) : W.cell? ⟨G, 6, none⟩ = some (.int .i64 fk) := a.g.cell 6
theorem NxAt.c7 (a : NxAt w W S0 R G h f fk fl bd z t sz) : W.cell? ⟨G, 7, none⟩ = some (.int .i64 fl) := a.g.cell 7
theorem NxAt.c8 (a : NxAt w W S0 R G h f fk fl bd z t sz) : W.cell? ⟨G, 8, none⟩ = some (.string bd) := a.g.cell 8
theorem NxAt.c9 (a : NxAt w W S0 R G h f fk fl bd z t sz) : W.cell? ⟨G, 9, none⟩ = some z := a.g.cell 9
theorem NxAt.c10 (a : NxAt w W S0 R G h f fk fl bd z t sz) : W.cell? ⟨G, 10, none⟩ = some t := a.g.cell 10
end
theorem nx_new {w W : World} {S0 n : Nat} {R : Array Value} {m t r : ByteArray} {k st : Int} {fs : List Fd} {f : Value} (hB : Below w.heap.size w W) (hs : Blk W S0 R 84) (hn : w.heap.size ≤ n) (ho : OwnF W n f fs) :
 NxAt w (W.alloc (.cells #[.string m, .string t, .int .i64 k, .int .i64 st, .string r, f, .int .i64 0, .int .i64 0, .string ⟨#[]⟩, .slice none 0 0, .slice none 0 0] 46)) S0 R W.heap.size ⟨m, t, k, st, r, fs⟩ f 0 0 ⟨#[]⟩ (.slice none 0 0) (.slice none 0 0) [] :=
 ⟨hB.alloc hB.size _, hs.alloc _, Blk.new _ _ _, hB.size, (ho.lower hn).alloc _, OwnI.start _ _⟩
end Go.Proofs.YtaojfiegnebbdaaGreatDoor
-- MsN
namespace Go.Proofs.YtaojfiegnebbdaaGreatDoor
open Go.RowKit
theorem next_head (x : ByteArray) (closed : Bool) (a fields c d fold kind : Int) (at_ : Nat) (method : ByteArray) (w : World) (ha : a < 0 ∨ 65536 < a) : Calls Tryz.prog 47 #[.agg #[.string x, .bool closed, .int .i64 a, .int .i64 fields, .int .i64 c, .int .i64 d, .int .i64 fold, .int .i64 kind], .int .i64 (at_ : Int), .string method] w fun o w' => o = .returned (.iface 91 (.agg #[.int .i64 2, .int .i64 (at_ : Int), .int .i64 1])) ∧ Below w.heap.size w w' := by
 have HN := lH (hnew_wrong kind a fields c d fold (Or.inl ha))
 have K0 := lH (Blk.new w #[.string x, .bool closed, .int .i64 a, .int .i64 fields, .int .i64 c, .int .i64 d, .int .i64 fold, .int .i64 kind] 84)
 have B0 := lH ((Below.refl w.heap.size w).alloc (nR _) (.cells #[.string x, .bool closed, .int .i64 a, .int .i64 fields, .int .i64 c, .int .i64 d, .int .i64 fold, .int .i64 kind] 84))
 have HB := lH mbad_any
 obtain ⟨y0, y1, y2, y3, y4, y5, y6, y7⟩ := bc8 K0.out 0 1 2 3 4 5 6 7
 simp at y0 y1 y2 y3 y4 y5 y6 y7
 clear ha
 go_enter Tryz.func47, Tryz.ntmps47
 go_wp2_with (first | (go_at_call 32; refine (HN.out _).mono ?_; rintro e1 w1 ⟨rfl, hb⟩; have B1 := lH (B0.out.trans (hb.mono B0.out.size)); clear hb) | (go_at_call 93; refine (HB.out _ _ _).mono ?_; rintro eb wb ⟨rfl, hb⟩; have BB := lH (B1.out.trans (hb.mono B1.out.size)); clear hb))
 go_ret
 exact ⟨rfl, BB.out⟩
theorem next_wrong (x : ByteArray) (closed : Bool) (a fields c d fold kind : Int) (at_ : Nat) (method : ByteArray) (w : World) (h0 : 0 ≤ a) (h1 : a ≤ 65536) (hk : kind = 1 ∨ kind = 2) (hfi : -9223372036854775808 ≤ fields ∧ fields ≤ 9223372036854775807) {mx : Int} (hm : w.cell? ⟨0, 0, none⟩ = some (.int .i64 mx)) (hw : 0 < w.heap.size) (hx : x.size ≤ 100000) (hat : at_ ≤ x.size) {P1 : PaS} {P2 : Nat} (hP : pRun kind fields fold (x.data.toList.drop at_) (pa0 a) = (P1, P2)) (he : P1.e ≠ 0) : Calls Tryz.prog 47 #[.agg #[.string x, .bool closed, .int .i64 a, .int .i64 fields, .int .i64 c, .int .i64 d, .int .i64 fold, .int .i64 kind], .int .i64 (at_ : Int), .string method] w fun o w' => o = .returned (.iface 91 (.agg #[.int .i64 2, .int .i64 (at_ : Int), .int .i64 P1.e])) ∧ Below w.heap.size w w' := by
 have K0 := lH (Blk.new w #[.string x, .bool closed, .int .i64 a, .int .i64 fields, .int .i64 c, .int .i64 d, .int .i64 fold, .int .i64 kind] 84)
 have B0 := lH ((Below.refl w.heap.size w).alloc (nR _) (.cells #[.string x, .bool closed, .int .i64 a, .int .i64 fields, .int .i64 c, .int .i64 d, .int .i64 fold, .int .i64 kind] 84))
 have HB := lH mbad_any
 obtain ⟨y0, y1, y2, y3, y4, y5, y6, y7⟩ := bc8 K0.out 0 1 2 3 4 5 6 7
 simp at y0 y1 y2 y3 y4 y5 y6 y7
 have HL := lH (And.intro h0 h1)
 have HF := lH hfi
 have HM := lH hm
 have H0 := lH hw
 have HP := lH hP
 have HN := lH (nnew_any kind a fields c d fold h0 h1 hk)
 obtain ⟨Y, hY⟩ : ∃ Y, Y = x.extract at_ x.size := ⟨_, rfl⟩
 have HY : Hid (Y.data.toList = x.data.toList.drop at_) := by show _ = _; rw [hY]; exact drop_str x at_
 have HZ : Hid (Y.size ≤ 1000000) := by show _ ≤ _; rw [hY]; have := dropx_size x at_; omega
 have hsl : ∀ W : World, (Instr.slice 9 (.string x) (some (.int .i64 (at_ : Int))) none none).run Tryz.prog W = .ok (.string Y) W := fun W => by rw [run_slice_string_l W 9 x Tryz.underlying9 .i64 (at_ : Int) (by omega) (by omega), Int.toNat_natCast, hY]
 obtain ⟨E, hE⟩ : ∃ E, E = P1.e := ⟨_, rfl⟩
 rw [← hE] at he ⊢
 have HE := lH hE
 have qe : (E != 0) = true := by rw [bne_iff_ne]; exact he
 clear h0 h1 hfi hm hw hP hY hx hat
 clear hE he
 go_enter Tryz.func47, Tryz.ntmps47
 go_wp2_with (first | (go_at_call 32; refine (HN.out _).mono ?_; rintro e1 w1 ⟨b, g, rfl, hpa, hb, qb, qg⟩; have KS1 := lH (K0.out.call hb); have PA1 := lH hpa; have HQ := lH (And.intro qb qg); have B1 := lH (B0.out.trans (hb.mono B0.out.size)); clear hpa hb qb qg; obtain ⟨u0, u1, u2, u3, u4, u5, u6, u7⟩ := bc8 KS1.out 0 1 2 3 4 5 6 7; simp at u0 u1 u2 u3 u4 u5 u6 u7) | (go_at_call 51; refine (nfeed_any PA1.out HL.out.1 HL.out.2 HF.out (mx_below' HM.out H0.out B1.out) HP.out _ HY.out HZ.out).mono ?_; rw [← HE.out]; rintro e2 w2 ⟨rfl, ⟨vl, va, vf, hpa⟩, ht⟩; have PA2 := lH hpa; have KS2 := lH (KS1.out.touch ht (by have := HQ.out; simp at this; omega)); have B2 := lH (pa_below B1.out (by have := HQ.out; simp at this; omega) (by have := HQ.out; simp at this; omega) ht); clear hpa ht; obtain ⟨v0, v1, v2, v3, v4, v5, v6, v7⟩ := bc8 KS2.out 0 1 2 3 4 5 6 7; simp at v0 v1 v2 v3 v4 v5 v6 v7) | (go_at_call 93; refine (HB.out _ _ _).mono ?_; rintro eb wb ⟨rfl, hb⟩; have BB := lH (B2.out.trans (hb.mono B2.out.size)); clear hb))
 go_ret
 exact ⟨rfl, BB.out⟩
theorem next_none (x : ByteArray) (closed : Bool) (a fields c d fold kind : Int) (at_ : Nat) (method : ByteArray) (w : World) (h0 : 0 ≤ a) (h1 : a ≤ 65536) (hk : kind = 1 ∨ kind = 2) (hfi : -9223372036854775808 ≤ fields ∧ fields ≤ 9223372036854775807) {mx : Int} (hm : w.cell? ⟨0, 0, none⟩ = some (.int .i64 mx)) (hw : 0 < w.heap.size) (hx : x.size ≤ 100000) (hat : at_ ≤ x.size) {P1 : PaS} {P2 : Nat} (hP : pRun kind fields fold (x.data.toList.drop at_) (pa0 a) = (P1, P2)) (he : P1.e = 0) (hD : (P1.fin && P1.e == 0) = false) (hG : (!P1.all.isEmpty || P1.fin || P1.ln.within) = false) : Calls Tryz.prog 47 #[.agg #[.string x, .bool closed, .int .i64 a, .int .i64 fields, .int .i64 c, .int .i64 d, .int .i64 fold, .int .i64 kind], .int .i64 (at_ : Int), .string method] w fun o w' => o = .returned (.iface 91 (.agg #[.int .i64 0, .int .i64 (at_ : Int), .int .i64 0])) ∧ Below w.heap.size w w' := by
 have K0 := lH (Blk.new w #[.string x, .bool closed, .int .i64 a, .int .i64 fields, .int .i64 c, .int .i64 d, .int .i64 fold, .int .i64 kind] 84)
 have B0 := lH ((Below.refl w.heap.size w).alloc (nR _) (.cells #[.string x, .bool closed, .int .i64 a, .int .i64 fields, .int .i64 c, .int .i64 d, .int .i64 fold, .int .i64 kind] 84))
 have HB := lH mbad_any
 obtain ⟨y0, y1, y2, y3, y4, y5, y6, y7⟩ := bc8 K0.out 0 1 2 3 4 5 6 7
 simp at y0 y1 y2 y3 y4 y5 y6 y7
 have HL := lH (And.intro h0 h1)
 have HF := lH hfi
 have HM := lH hm
 have H0 := lH hw
 have HP := lH hP
 have HN := lH (nnew_any kind a fields c d fold h0 h1 hk)
 obtain ⟨Y, hY⟩ : ∃ Y, Y = x.extract at_ x.size := ⟨_, rfl⟩
 have HY : Hid (Y.data.toList = x.data.toList.drop at_) := by show _ = _; rw [hY]; exact drop_str x at_
 have HZ : Hid (Y.size ≤ 1000000) := by show _ ≤ _; rw [hY]; have := dropx_size x at_; omega
 have hsl : ∀ W : World, (Instr.slice 9 (.string x) (some (.int .i64 (at_ : Int))) none none).run Tryz.prog W = .ok (.string Y) W := fun W => by rw [run_slice_string_l W 9 x Tryz.underlying9 .i64 (at_ : Int) (by omega) (by omega), Int.toNat_natCast, hY]
 have HD : Hid (∀ (W : World) (b g : Nat) (vl va vf : Value), PaAt W b g (b + 1) vl va vf kind a fields c d fold P1 → Calls Tryz.prog 52 #[.pointer (some ⟨b, 0, none⟩)] W fun e w' => e = .returned (.bool false) ∧ W = w') := fun W b g vl va vf h => by
  have q := hdone_any h
  rw [hD] at q
  exact q
 have HG : Hid (∀ (W : World) (b g : Nat) (vl va vf : Value), PaAt W b g (b + 1) vl va vf kind a fields c d fold P1 → Calls Tryz.prog 33 #[.pointer (some ⟨b, 0, none⟩)] W fun e w' => e = .returned (.bool false) ∧ W = w') := fun W b g vl va vf h => by
  have q := hbegun_any h
  rw [hG] at q
  exact q
 have HE := lH he
 clear h0 h1 hfi hm hw hP hY hx hat
 clear he hD hG
 go_enter Tryz.func47, Tryz.ntmps47
 go_wp2_with (first | (go_at_call 32; refine (HN.out _).mono ?_; rintro e1 w1 ⟨b, g, rfl, hpa, hb, qb, qg⟩; have KS1 := lH (K0.out.call hb); have PA1 := lH hpa; have HQ := lH (And.intro qb qg); have B1 := lH (B0.out.trans (hb.mono B0.out.size)); clear hpa hb qb qg; obtain ⟨u0, u1, u2, u3, u4, u5, u6, u7⟩ := bc8 KS1.out 0 1 2 3 4 5 6 7; simp at u0 u1 u2 u3 u4 u5 u6 u7) | (go_at_call 51; refine (nfeed_any PA1.out HL.out.1 HL.out.2 HF.out (mx_below' HM.out H0.out B1.out) HP.out _ HY.out HZ.out).mono ?_; rw [HE.out]; rintro e2 w2 ⟨rfl, ⟨vl, va, vf, hpa⟩, ht⟩; have PA2 := lH hpa; have KS2 := lH (KS1.out.touch ht (by have := HQ.out; simp at this; omega)); have B2 := lH (pa_below B1.out (by have := HQ.out; simp at this; omega) (by have := HQ.out; simp at this; omega) ht); clear hpa ht; obtain ⟨v0, v1, v2, v3, v4, v5, v6, v7⟩ := bc8 KS2.out 0 1 2 3 4 5 6 7; simp at v0 v1 v2 v3 v4 v5 v6 v7) | (go_at_call 52; refine (HD.out _ _ _ _ _ _ PA2.out).mono ?_; rintro _ _ ⟨rfl, rfl⟩) | (go_at_call 33; refine (HG.out _ _ _ _ _ _ PA2.out).mono ?_; rintro _ _ ⟨rfl, rfl⟩))
 go_ret
 exact ⟨rfl, B2.out⟩
theorem next_cut (x : ByteArray) (a fields c d fold kind : Int) (at_ : Nat) (method : ByteArray) (w : World) (h0 : 0 ≤ a) (h1 : a ≤ 65536) (hk : kind = 1 ∨ kind = 2) (hfi : -9223372036854775808 ≤ fields ∧ fields ≤ 9223372036854775807) {mx : Int} (hm : w.cell? ⟨0, 0, none⟩ = some (.int .i64 mx)) (hw : 0 < w.heap.size) (hx : x.size ≤ 100000) (hat : at_ ≤ x.size) {P1 : PaS} {P2 : Nat} (hP : pRun kind fields fold (x.data.toList.drop at_) (pa0 a) = (P1, P2)) (he : P1.e = 0) (hD : (P1.fin && P1.e == 0) = false) (hG : (!P1.all.isEmpty || P1.fin || P1.ln.within) = true) : Calls Tryz.prog 47 #[.agg #[.string x, .bool true, .int .i64 a, .int .i64 fields, .int .i64 c, .int .i64 d, .int .i64 fold, .int .i64 kind], .int .i64 (at_ : Int), .string method] w fun o w' => o = .returned (.iface 91 (.agg #[.int .i64 2, .int .i64 (at_ : Int), .int .i64 19])) ∧ Below w.heap.size w w' := by
 have K0 := lH (Blk.new w #[.string x, .bool true, .int .i64 a, .int .i64 fields, .int .i64 c, .int .i64 d, .int .i64 fold, .int .i64 kind] 84)
 have B0 := lH ((Below.refl w.heap.size w).alloc (nR _) (.cells #[.string x, .bool true, .int .i64 a, .int .i64 fields, .int .i64 c, .int .i64 d, .int .i64 fold, .int .i64 kind] 84))
 have HB := lH mbad_any
 obtain ⟨y0, y1, y2, y3, y4, y5, y6, y7⟩ := bc8 K0.out 0 1 2 3 4 5 6 7
 simp at y0 y1 y2 y3 y4 y5 y6 y7
 have HL := lH (And.intro h0 h1)
 have HF := lH hfi
 have HM := lH hm
 have H0 := lH hw
 have HP := lH hP
 have HN := lH (nnew_any kind a fields c d fold h0 h1 hk)
 obtain ⟨Y, hY⟩ : ∃ Y, Y = x.extract at_ x.size := ⟨_, rfl⟩
 have HY : Hid (Y.data.toList = x.data.toList.drop at_) := by show _ = _; rw [hY]; exact drop_str x at_
 have HZ : Hid (Y.size ≤ 1000000) := by show _ ≤ _; rw [hY]; have := dropx_size x at_; omega
 have hsl : ∀ W : World, (Instr.slice 9 (.string x) (some (.int .i64 (at_ : Int))) none none).run Tryz.prog W = .ok (.string Y) W := fun W => by rw [run_slice_string_l W 9 x Tryz.underlying9 .i64 (at_ : Int) (by omega) (by omega), Int.toNat_natCast, hY]
 have HD : Hid (∀ (W : World) (b g : Nat) (vl va vf : Value), PaAt W b g (b + 1) vl va vf kind a fields c d fold P1 → Calls Tryz.prog 52 #[.pointer (some ⟨b, 0, none⟩)] W fun e w' => e = .returned (.bool false) ∧ W = w') := fun W b g vl va vf h => by
  have q := hdone_any h
  rw [hD] at q
  exact q
 have HG : Hid (∀ (W : World) (b g : Nat) (vl va vf : Value), PaAt W b g (b + 1) vl va vf kind a fields c d fold P1 → Calls Tryz.prog 33 #[.pointer (some ⟨b, 0, none⟩)] W fun e w' => e = .returned (.bool true) ∧ W = w') := fun W b g vl va vf h => by
  have q := hbegun_any h
  rw [hG] at q
  exact q
 have HE := lH he
 clear h0 h1 hfi hm hw hP hY hx hat
 clear he hD hG
 go_enter Tryz.func47, Tryz.ntmps47
 go_wp2_with (first | (go_at_call 32; refine (HN.out _).mono ?_; rintro e1 w1 ⟨b, g, rfl, hpa, hb, qb, qg⟩; have KS1 := lH (K0.out.call hb); have PA1 := lH hpa; have HQ := lH (And.intro qb qg); have B1 := lH (B0.out.trans (hb.mono B0.out.size)); clear hpa hb qb qg; obtain ⟨u0, u1, u2, u3, u4, u5, u6, u7⟩ := bc8 KS1.out 0 1 2 3 4 5 6 7; simp at u0 u1 u2 u3 u4 u5 u6 u7) | (go_at_call 51; refine (nfeed_any PA1.out HL.out.1 HL.out.2 HF.out (mx_below' HM.out H0.out B1.out) HP.out _ HY.out HZ.out).mono ?_; rw [HE.out]; rintro e2 w2 ⟨rfl, ⟨vl, va, vf, hpa⟩, ht⟩; have PA2 := lH hpa; have KS2 := lH (KS1.out.touch ht (by have := HQ.out; simp at this; omega)); have B2 := lH (pa_below B1.out (by have := HQ.out; simp at this; omega) (by have := HQ.out; simp at this; omega) ht); clear hpa ht; obtain ⟨v0, v1, v2, v3, v4, v5, v6, v7⟩ := bc8 KS2.out 0 1 2 3 4 5 6 7; simp at v0 v1 v2 v3 v4 v5 v6 v7) | (go_at_call 52; refine (HD.out _ _ _ _ _ _ PA2.out).mono ?_; rintro _ _ ⟨rfl, rfl⟩) | (go_at_call 33; refine (HG.out _ _ _ _ _ _ PA2.out).mono ?_; rintro _ _ ⟨rfl, rfl⟩) | (go_at_call 93; refine (HB.out _ _ _).mono ?_; rintro eb wb ⟨rfl, hb⟩; have BB := lH (B2.out.trans (hb.mono B2.out.size)); clear hb))
 go_ret
 exact ⟨rfl, BB.out⟩
theorem next_part (x : ByteArray) (a fields c d fold kind : Int) (at_ : Nat) (method : ByteArray) (w : World) (h0 : 0 ≤ a) (h1 : a ≤ 65536) (hk : kind = 1 ∨ kind = 2) (hfi : -9223372036854775808 ≤ fields ∧ fields ≤ 9223372036854775807) {mx : Int} (hm : w.cell? ⟨0, 0, none⟩ = some (.int .i64 mx)) (hw : 0 < w.heap.size) (hx : x.size ≤ 100000) (hat : at_ ≤ x.size) {P1 : PaS} {P2 : Nat} (hP : pRun kind fields fold (x.data.toList.drop at_) (pa0 a) = (P1, P2)) (he : P1.e = 0) (hD : (P1.fin && P1.e == 0) = false) (hG : (!P1.all.isEmpty || P1.fin || P1.ln.within) = true) : Calls Tryz.prog 47 #[.agg #[.string x, .bool false, .int .i64 a, .int .i64 fields, .int .i64 c, .int .i64 d, .int .i64 fold, .int .i64 kind], .int .i64 (at_ : Int), .string method] w fun o w' => o = .returned (.iface 91 (.agg #[.int .i64 1, .int .i64 (at_ : Int), .int .i64 0])) ∧ Below w.heap.size w w' := by
 have K0 := lH (Blk.new w #[.string x, .bool false, .int .i64 a, .int .i64 fields, .int .i64 c, .int .i64 d, .int .i64 fold, .int .i64 kind] 84)
 have B0 := lH ((Below.refl w.heap.size w).alloc (nR _) (.cells #[.string x, .bool false, .int .i64 a, .int .i64 fields, .int .i64 c, .int .i64 d, .int .i64 fold, .int .i64 kind] 84))
 have HB := lH mbad_any
 obtain ⟨y0, y1, y2, y3, y4, y5, y6, y7⟩ := bc8 K0.out 0 1 2 3 4 5 6 7
 simp at y0 y1 y2 y3 y4 y5 y6 y7
 have HL := lH (And.intro h0 h1)
 have HF := lH hfi
 have HM := lH hm
 have H0 := lH hw
 have HP := lH hP
 have HN := lH (nnew_any kind a fields c d fold h0 h1 hk)
 obtain ⟨Y, hY⟩ : ∃ Y, Y = x.extract at_ x.size := ⟨_, rfl⟩
 have HY : Hid (Y.data.toList = x.data.toList.drop at_) := by show _ = _; rw [hY]; exact drop_str x at_
 have HZ : Hid (Y.size ≤ 1000000) := by show _ ≤ _; rw [hY]; have := dropx_size x at_; omega
 have hsl : ∀ W : World, (Instr.slice 9 (.string x) (some (.int .i64 (at_ : Int))) none none).run Tryz.prog W = .ok (.string Y) W := fun W => by rw [run_slice_string_l W 9 x Tryz.underlying9 .i64 (at_ : Int) (by omega) (by omega), Int.toNat_natCast, hY]
 have HD : Hid (∀ (W : World) (b g : Nat) (vl va vf : Value), PaAt W b g (b + 1) vl va vf kind a fields c d fold P1 → Calls Tryz.prog 52 #[.pointer (some ⟨b, 0, none⟩)] W fun e w' => e = .returned (.bool false) ∧ W = w') := fun W b g vl va vf h => by
  have q := hdone_any h
  rw [hD] at q
  exact q
 have HG : Hid (∀ (W : World) (b g : Nat) (vl va vf : Value), PaAt W b g (b + 1) vl va vf kind a fields c d fold P1 → Calls Tryz.prog 33 #[.pointer (some ⟨b, 0, none⟩)] W fun e w' => e = .returned (.bool true) ∧ W = w') := fun W b g vl va vf h => by
  have q := hbegun_any h
  rw [hG] at q
  exact q
 have HE := lH he
 clear h0 h1 hfi hm hw hP hY hx hat
 clear he hD hG
 go_enter Tryz.func47, Tryz.ntmps47
 go_wp2_with (first | (go_at_call 32; refine (HN.out _).mono ?_; rintro e1 w1 ⟨b, g, rfl, hpa, hb, qb, qg⟩; have KS1 := lH (K0.out.call hb); have PA1 := lH hpa; have HQ := lH (And.intro qb qg); have B1 := lH (B0.out.trans (hb.mono B0.out.size)); clear hpa hb qb qg; obtain ⟨u0, u1, u2, u3, u4, u5, u6, u7⟩ := bc8 KS1.out 0 1 2 3 4 5 6 7; simp at u0 u1 u2 u3 u4 u5 u6 u7) | (go_at_call 51; refine (nfeed_any PA1.out HL.out.1 HL.out.2 HF.out (mx_below' HM.out H0.out B1.out) HP.out _ HY.out HZ.out).mono ?_; rw [HE.out]; rintro e2 w2 ⟨rfl, ⟨vl, va, vf, hpa⟩, ht⟩; have PA2 := lH hpa; have KS2 := lH (KS1.out.touch ht (by have := HQ.out; simp at this; omega)); have B2 := lH (pa_below B1.out (by have := HQ.out; simp at this; omega) (by have := HQ.out; simp at this; omega) ht); clear hpa ht; obtain ⟨v0, v1, v2, v3, v4, v5, v6, v7⟩ := bc8 KS2.out 0 1 2 3 4 5 6 7; simp at v0 v1 v2 v3 v4 v5 v6 v7) | (go_at_call 52; refine (HD.out _ _ _ _ _ _ PA2.out).mono ?_; rintro _ _ ⟨rfl, rfl⟩) | (go_at_call 33; refine (HG.out _ _ _ _ _ _ PA2.out).mono ?_; rintro _ _ ⟨rfl, rfl⟩))
 go_ret
 exact ⟨rfl, B2.out⟩
end Go.Proofs.YtaojfiegnebbdaaGreatDoor
-- MsM
namespace Go.Proofs.YtaojfiegnebbdaaGreatDoor
open Go.RowKit
theorem wrap_sum {a b c : Nat} (h : a + b = c) (hc : c ≤ 100000) : wrap64 ((a : Int) + (b : Int)) = (c : Int) ∧ IntKind.i64.wrap ((a : Int) + (b : Int)) = (c : Int) := by
 subst h
 refine ⟨?_, ?_⟩
 ·rw [IntWalk.wrap64_in _ ⟨by omega, by omega⟩]; simp
 ·rw [IntWalk.i64_in _ (by omega)]; simp
theorem next_frame (x : ByteArray) (closed : Bool) (a fields c d fold kind : Int) (at_ : Nat) (method : ByteArray) (w : World) (h0 : 0 ≤ a) (h1 : a ≤ 65536) (hk : kind = 1 ∨ kind = 2) (hfi : -9223372036854775808 ≤ fields ∧ fields ≤ 9223372036854775807) {mx : Int} (hm : w.cell? ⟨0, 0, none⟩ = some (.int .i64 mx)) (hw : 0 < w.heap.size) (hx : x.size ≤ 100000) (hat : at_ ≤ x.size) {P1 : PaS} {P2 : Nat} (hP : pRun kind fields fold (x.data.toList.drop at_) (pa0 a) = (P1, P2)) (he : P1.e = 0) (hD : (P1.fin && P1.e == 0) = true) (hlen : P1.hd.fs.length ≤ 1000000) {Hm Ht Hr : ByteArray} {Hk Hn : Int} {Hfs : List Fd} (hH : doneH P1 = ⟨Hm, Ht, Hk, Hn, Hr, Hfs⟩) (hok : FdsOk Hfs) {fk fl fe : Int} (hfr : frmP kind ⟨Hm, Ht, Hk, Hn, Hr, Hfs⟩ method = (fk, fl, fe)) (hfe : fe ≠ 0) : Calls Tryz.prog 47 #[.agg #[.string x, .bool closed, .int .i64 a, .int .i64 fields, .int .i64 c, .int .i64 d, .int .i64 fold, .int .i64 kind], .int .i64 (at_ : Int), .string method] w fun o w' => o = .returned (.iface 91 (.agg #[.int .i64 2, .int .i64 (at_ : Int), .int .i64 fe])) ∧ Below w.heap.size w w' := by
 have K0 := lH (Blk.new w #[.string x, .bool closed, .int .i64 a, .int .i64 fields, .int .i64 c, .int .i64 d, .int .i64 fold, .int .i64 kind] 84)
 have B0 := lH ((Below.refl w.heap.size w).alloc (nR _) (.cells #[.string x, .bool closed, .int .i64 a, .int .i64 fields, .int .i64 c, .int .i64 d, .int .i64 fold, .int .i64 kind] 84))
 have HB := lH mbad_any
 obtain ⟨y0, y1, y2, y3, y4, y5, y6, y7⟩ := bc8 K0.out 0 1 2 3 4 5 6 7
 simp at y0 y1 y2 y3 y4 y5 y6 y7
 have HL := lH (And.intro h0 h1)
 have HF := lH hfi
 have HM := lH hm
 have H0 := lH hw
 have HP := lH hP
 have HN := lH (nnew_any kind a fields c d fold h0 h1 hk)
 obtain ⟨Y, hY⟩ : ∃ Y, Y = x.extract at_ x.size := ⟨_, rfl⟩
 have HY : Hid (Y.data.toList = x.data.toList.drop at_) := by show _ = _; rw [hY]; exact drop_str x at_
 have HZ : Hid (Y.size ≤ 1000000) := by show _ ≤ _; rw [hY]; have := dropx_size x at_; omega
 have hsl : ∀ W : World, (Instr.slice 9 (.string x) (some (.int .i64 (at_ : Int))) none none).run Tryz.prog W = .ok (.string Y) W := fun W => by rw [run_slice_string_l W 9 x Tryz.underlying9 .i64 (at_ : Int) (by omega) (by omega), Int.toNat_natCast, hY]
 have HD : Hid (∀ (W : World) (b g : Nat) (vl va vf : Value), PaAt W b g (b + 1) vl va vf kind a fields c d fold P1 → Calls Tryz.prog 52 #[.pointer (some ⟨b, 0, none⟩)] W fun e w' => e = .returned (.bool true) ∧ W = w') := fun W b g vl va vf h => by
  have q := hdone_any h
  rw [hD] at q
  exact q
 have HE := lH he
 have HLEN := lH hlen
 have HDH := lH hH
 have HFM : Hid (∀ (W : World) (f : Value), Flds W f Hfs → Calls Tryz.prog 94 #[.agg #[.string x, .bool closed, .int .i64 a, .int .i64 fields, .int .i64 c, .int .i64 d, .int .i64 fold, .int .i64 kind], .agg #[.string Hm, .string Ht, .int .i64 Hk, .int .i64 Hn, .string Hr, f], .string method] W fun e w' => e = .returned (.tuple #[.agg #[.int .i64 fk, .int .i64 fl], .int .i64 fe]) ∧ Below W.heap.size W w') := fun W f hF => by
  have q := frame_any x closed a fields c d fold kind hk ⟨Hm, Ht, Hk, Hn, Hr, Hfs⟩ f method W hF hok
  rw [hfr] at q
  exact q
 have qe : (fe != 0) = true := by rw [bne_iff_ne]; exact hfe
 clear h0 h1 hfi hm hw hP hY hx hat
 clear he hD hlen hH hok hfr
 clear hfe
 go_enter Tryz.func47, Tryz.ntmps47
 go_wp2_with (first | (go_at_call 32; refine (HN.out _).mono ?_; rintro e1 w1 ⟨b, g, rfl, hpa, hb, qb, qg⟩; have KS1 := lH (K0.out.call hb); have PA1 := lH hpa; have HQ := lH (And.intro qb qg); have B1 := lH (B0.out.trans (hb.mono B0.out.size)); clear hpa hb qb qg; obtain ⟨u0, u1, u2, u3, u4, u5, u6, u7⟩ := bc8 KS1.out 0 1 2 3 4 5 6 7; simp at u0 u1 u2 u3 u4 u5 u6 u7; clear y0 y1 y2 y3 y4 y5 y6 y7) | (go_at_call 51; refine (nfeed_any PA1.out HL.out.1 HL.out.2 HF.out (mx_below' HM.out H0.out B1.out) HP.out _ HY.out HZ.out).mono ?_; rw [HE.out]; rintro e2 w2 ⟨rfl, ⟨vl, va, vf, hpa⟩, ht⟩; have PA2 := lH hpa; have KS2 := lH (KS1.out.touch ht (by have := HQ.out; simp at this; omega)); have B2 := lH (pa_below B1.out (by have := HQ.out; simp at this; omega) (by have := HQ.out; simp at this; omega) ht); clear hpa ht; obtain ⟨v0, v1, v2, v3, v4, v5, v6, v7⟩ := bc8 KS2.out 0 1 2 3 4 5 6 7; simp at v0 v1 v2 v3 v4 v5 v6 v7; clear u0 u1 u2 u3 u4 u5 u6 u7) | (go_at_call 52; refine (HD.out _ _ _ _ _ _ PA2.out).mono ?_; rintro _ _ ⟨rfl, rfl⟩) | (go_at_call 53; refine (nhead_any PA2.out HLEN.out HDH.out).mono ?_; rintro e3 w3 ⟨f, rfl, hfx, hb⟩; obtain ⟨fp, fc, hfv, _⟩ := hfx.flds; subst hfv; have NX4 := lH (nx_new (m := Hm) (t := Ht) (r := Hr) (k := Hk) (st := Hn) (B2.out.trans (hb.mono B2.out.size)) (KS2.out.call hb) B2.out.size hfx); clear hfx hb; obtain ⟨z0, z1, z2, z3, z4, z5, z6, z7⟩ := bc8 NX4.out.s 0 1 2 3 4 5 6 7; simp at z0 z1 z2 z3 z4 z5 z6 z7; have g0 := NX4.out.c0; have g1 := NX4.out.c1; have g2 := NX4.out.c2; have g3 := NX4.out.c3; have g4 := NX4.out.c4; have g5 := NX4.out.c5; dsimp only at g0 g1 g2 g3 g4; clear v0 v1 v2 v3 v4 v5 v6 v7) | (go_at_call 94; refine (HFM.out _ _ NX4.out.o.flds).mono ?_; rintro e5 w5 ⟨rfl, hb⟩; have NX5 := lH (NX4.out.call hb); have NX6 := lH (NX5.out.frame fk fl); clear hb; obtain ⟨p6, p7⟩ := bf2 NX5.out.g 6 7; have pc6 := NX5.out.c6; have pc7 := NX5.out.c7; obtain ⟨q0, q1, q2, q3, q4, q5, q6, q7⟩ := bc8 NX6.out.s 0 1 2 3 4 5 6 7; simp at q0 q1 q2 q3 q4 q5 q6 q7; have s6 := NX6.out.c6; have s7 := NX6.out.c7; clear z0 z1 z2 z3 z4 z5 z6 z7; clear g0 g1 g2 g3 g4 g5) | (go_at_call 93; refine (HB.out _ _ _).mono ?_; rintro eb wb ⟨rfl, hb⟩; have BB := lH (NX6.out.b.trans (hb.mono NX6.out.b.size)); clear hb))
 go_ret
 exact ⟨rfl, BB.out⟩
def NextB (w : World) (at_ P2 F2 : Nat) (Hm Ht : ByteArray) (Hk Hn : Int) (Hr : ByteArray) (Hfs : List Fd) (fk fl : Int) (F1 : BdS) (er : Int) (ov : Bool) (o : Ending) (w' : World) : Prop :=
 if er ≠ 0 then o = .returned (.iface 91 (.agg #[.int .i64 2, .int .i64 (at_ : Int), .int .i64 er])) ∧ Below w.heap.size w w'
 else if ov = false then o = .returned (.iface 91 (.agg #[.int .i64 1, .int .i64 (at_ : Int), .int .i64 0])) ∧ Below w.heap.size w w'
 else ∃ f z t, o = .returned (.iface 89 (.agg #[.string Hm, .string Ht, .int .i64 Hk, .int .i64 Hn, .string Hr, f, .int .i64 fk, .int .i64 fl, .string (⟨#[]⟩ ++ strL (bdO F1.out)), z, t, .int .i64 ((at_ + P2 + F2 : Nat) : Int)])) ∧ Below w.heap.size w w' ∧ OwnF w' w.heap.size f Hfs ∧ OwnI w' w.heap.size z ([] ++ szO F1.out) ∧ OwnF w' w.heap.size t F1.tr
theorem next_body (x : ByteArray) (closed : Bool) (a fields c d fold kind : Int) (at_ : Nat) (method : ByteArray) (w : World) (h0 : 0 ≤ a) (h1 : a ≤ 65536) (hk : kind = 1 ∨ kind = 2) (hfi : -9223372036854775808 ≤ fields ∧ fields ≤ 9223372036854775807) {mx : Int} (hm : w.cell? ⟨0, 0, none⟩ = some (.int .i64 mx)) (hw : 0 < w.heap.size) (hx : x.size ≤ 100000) (hat : at_ ≤ x.size) {P1 : PaS} {P2 : Nat} (hP : pRun kind fields fold (x.data.toList.drop at_) (pa0 a) = (P1, P2)) (he : P1.e = 0) (hD : (P1.fin && P1.e == 0) = true) (hlen : P1.hd.fs.length ≤ 1000000) {Hm Ht Hr : ByteArray} {Hk Hn : Int} {Hfs : List Fd} (hH : doneH P1 = ⟨Hm, Ht, Hk, Hn, Hr, Hfs⟩) (hok : FdsOk Hfs) {fk fl : Int} (hfr : frmP kind ⟨Hm, Ht, Hk, Hn, Hr, Hfs⟩ method = (fk, fl, 0)) (hfl : fl ≤ 9223372036854775807) {F1 : BdS} {F2 : Nat} (hF : bFeed ⟨a, fields, c, d, fold⟩ (bNew ⟨a, fields, c, d, fold⟩ fk fl) (x.data.toList.drop (at_ + P2)) = (F1, F2)) (hle : at_ + P2 ≤ x.size) {FN : BdS} (hFN : FN = (if closed = true then bTold (bClose (bTold F1)) else bTold F1)) {er : Int} {ov : Bool} (her : FN.e = er) (hov : er = 0 → FN.over = ov) (hl2 : er = 0 → ov = true → at_ + P2 + F2 ≤ x.size) :
 Calls Tryz.prog 47 #[.agg #[.string x, .bool closed, .int .i64 a, .int .i64 fields, .int .i64 c, .int .i64 d, .int .i64 fold, .int .i64 kind], .int .i64 (at_ : Int), .string method] w (NextB w at_ P2 F2 Hm Ht Hk Hn Hr Hfs fk fl F1 er ov) := by
 have K0 := lH (Blk.new w #[.string x, .bool closed, .int .i64 a, .int .i64 fields, .int .i64 c, .int .i64 d, .int .i64 fold, .int .i64 kind] 84)
 have B0 := lH ((Below.refl w.heap.size w).alloc (nR _) (.cells #[.string x, .bool closed, .int .i64 a, .int .i64 fields, .int .i64 c, .int .i64 d, .int .i64 fold, .int .i64 kind] 84))
 have HB := lH mbad_any
 obtain ⟨y0, y1, y2, y3, y4, y5, y6, y7⟩ := bc8 K0.out 0 1 2 3 4 5 6 7
 simp at y0 y1 y2 y3 y4 y5 y6 y7
 have HL := lH (And.intro h0 h1)
 have HF := lH hfi
 have HM := lH hm
 have H0 := lH hw
 have HP := lH hP
 have HN := lH (nnew_any kind a fields c d fold h0 h1 hk)
 obtain ⟨Y, hY⟩ : ∃ Y, Y = x.extract at_ x.size := ⟨_, rfl⟩
 have HY : Hid (Y.data.toList = x.data.toList.drop at_) := by show _ = _; rw [hY]; exact drop_str x at_
 have HZ : Hid (Y.size ≤ 1000000) := by show _ ≤ _; rw [hY]; have := dropx_size x at_; omega
 have hsl : ∀ W : World, (Instr.slice 9 (.string x) (some (.int .i64 (at_ : Int))) none none).run Tryz.prog W = .ok (.string Y) W := fun W => by rw [run_slice_string_l W 9 x Tryz.underlying9 .i64 (at_ : Int) (by omega) (by omega), Int.toNat_natCast, hY]
 have HD : Hid (∀ (W : World) (b g : Nat) (vl va vf : Value), PaAt W b g (b + 1) vl va vf kind a fields c d fold P1 → Calls Tryz.prog 52 #[.pointer (some ⟨b, 0, none⟩)] W fun e w' => e = .returned (.bool true) ∧ W = w') := fun W b g vl va vf h => by
  have q := hdone_any h
  rw [hD] at q
  exact q
 have HE := lH he
 have HLEN := lH hlen
 have HDH := lH hH
 have HFM : Hid (∀ (W : World) (f : Value), Flds W f Hfs → Calls Tryz.prog 94 #[.agg #[.string x, .bool closed, .int .i64 a, .int .i64 fields, .int .i64 c, .int .i64 d, .int .i64 fold, .int .i64 kind], .agg #[.string Hm, .string Ht, .int .i64 Hk, .int .i64 Hn, .string Hr, f], .string method] W fun e w' => e = .returned (.tuple #[.agg #[.int .i64 fk, .int .i64 fl], .int .i64 0]) ∧ Below W.heap.size W w') := fun W f hF => by
  have q := frame_any x closed a fields c d fold kind hk ⟨Hm, Ht, Hk, Hn, Hr, Hfs⟩ f method W hF hok
  rw [hfr] at q
  exact q
 have HFL := lH hfl
 have HBF := lH hF
 obtain ⟨N1, hN1⟩ : ∃ N, N = at_ + P2 := ⟨_, rfl⟩
 obtain ⟨Y2, hY2⟩ : ∃ Y, Y = x.extract (at_ + P2) x.size := ⟨_, rfl⟩
 have HY2 : Hid (Y2.data.toList = x.data.toList.drop (at_ + P2)) := by show _ = _; rw [hY2]; exact drop_str x _
 have HZ2 : Hid (Y2.size ≤ 100000) := by show _ ≤ _; rw [hY2]; have := dropx_size x (at_ + P2); omega
 have hsl2 : ∀ W : World, (Instr.slice 9 (.string x) (some (.int .i64 (N1 : Int))) none none).run Tryz.prog W = .ok (.string Y2) W := fun W => by rw [run_slice_string_l W 9 x Tryz.underlying9 .i64 (N1 : Int) (by omega) (by omega), Int.toNat_natCast, hY2, hN1]
 obtain ⟨hw1, hw1'⟩ := wrap_sum hN1.symm (nT (nT (Nat.le_of_eq hN1) hle) hx)
 obtain ⟨B1, hB1⟩ : ∃ B, B = (⟨#[]⟩ : ByteArray) ++ strL (bdO F1.out) := ⟨_, rfl⟩
 obtain ⟨S1, hS1⟩ : ∃ S, S = ([] : List Int) ++ szO F1.out := ⟨_, rfl⟩
 have HB1 := lH hB1
 have HS1 := lH hS1
 have HS3 : Hid (S1.length ≤ F1.out.length) := by show _ ≤ _; rw [hS1]; exact szO_len _
 have HB3 : Hid (B1.size ≤ totT F1.out) := by show _ ≤ _; rw [hB1, ByteArray.size_append, strL_size]; have := bd_size F1.out; have e : (⟨#[]⟩ : ByteArray).size = 0 := rfl; omega
 have HC : Hid ((bClose (bTold F1)).out.length ≤ 1 ∧ totT (bClose (bTold F1)).out = 0) := (bClose_none F1).2.2
 have HB2 : Hid (B1 ++ strL (bdO (bClose (bTold F1)).out) = B1) := by show _ = _; rw [(bClose_none F1).2.1]; apply ext_list; unfold strL; simp
 have HS2 : Hid (S1 ++ szO (bClose (bTold F1)).out = S1) := by show _ = _; rw [(bClose_none F1).1]; exact List.append_nil _
 have HER : Hid (∀ (W : World) (D : Nat) (V : BdV), Blk W D (bRow ⟨a, fields, c, d, fold⟩ FN V) 100 → Calls Tryz.prog 58 #[.pointer (some ⟨D, 0, none⟩)] W fun e w' => e = .returned (.int .i64 er) ∧ W = w') := fun W D V h => by
  have q := berr_any h
  rw [her] at q
  exact q
 have HOV : Hid (er = 0 → ∀ (W : World) (D : Nat) (V : BdV), Blk W D (bRow ⟨a, fields, c, d, fold⟩ FN V) 100 → Calls Tryz.prog 59 #[.pointer (some ⟨D, 0, none⟩)] W fun e w' => e = .returned (.bool ov) ∧ W = w') := fun h0 W D V h => by
  have q := bdone_any h
  rw [hov h0] at q
  exact q
 have hFt : FN.tr = F1.tr := by
  rw [hFN]
  split
  ·exact bClose_tr (bTold F1)
  ·rfl
 have HTR : Hid (er = 0 → ov = true → ∀ (W : World) (D n0 : Nat) (V : BdV), BdAt W D n0 ⟨a, fields, c, d, fold⟩ FN V → F1.tr.length ≤ 65536 → Calls Tryz.prog 60 #[.pointer (some ⟨D, 0, none⟩)] W fun e w' => ∃ v, e = .returned v ∧ OwnF w' W.heap.size v F1.tr ∧ Below W.heap.size W w') := fun h0 h1 W D n0 V h ht => by
  have q := btrailers_any h (by rw [hFt]; omega)
  rw [if_pos ((hov h0).trans h1), hFt] at q
  exact q
 obtain ⟨N2, hN2⟩ : ∃ N, N = at_ + P2 + F2 := ⟨_, rfl⟩
 have HW2 : Hid (er = 0 → ov = true → wrap64 ((N1 : Int) + (F2 : Int)) = (N2 : Int) ∧ IntKind.i64.wrap ((N1 : Int) + (F2 : Int)) = (N2 : Int)) := fun h0 h1 => wrap_sum (show N1 + F2 = N2 by rw [hN1, hN2]) (nT (nT (Nat.le_of_eq hN2) (hl2 h0 h1)) hx)
 have HP9 : Hid (∀ o w', (if er ≠ 0 then o = .returned (.iface 91 (.agg #[.int .i64 2, .int .i64 (at_ : Int), .int .i64 er])) ∧ Below w.heap.size w w' else if ov = false then o = .returned (.iface 91 (.agg #[.int .i64 1, .int .i64 (at_ : Int), .int .i64 0])) ∧ Below w.heap.size w w'
  else ∃ f z t, o = .returned (.iface 89 (.agg #[.string Hm, .string Ht, .int .i64 Hk, .int .i64 Hn, .string Hr, f, .int .i64 fk, .int .i64 fl, .string B1, z, t, .int .i64 (N2 : Int)])) ∧ Below w.heap.size w w' ∧ OwnF w' w.heap.size f Hfs ∧ OwnI w' w.heap.size z S1 ∧ OwnF w' w.heap.size t F1.tr) → NextB w at_ P2 F2 Hm Ht Hk Hn Hr Hfs fk fl F1 er ov o w') := by
  show ∀ o w', _ → _
  intro o w' h
  unfold NextB
  rw [← hB1, ← hS1, ← hN2]
  exact h
 refine Calls.mono ?_ HP9.out
 clear h0 h1 hfi hm hw hP hY hx hat
 clear he hD hlen hH hok hfr
 clear hfl hF hN1 hY2 hB1 hS1 hle
 clear her hov hl2 hN2 HP9 hFt
 have hcs : (er ≠ 0 ∧ (er != 0) = true) ∨ (er = 0 ∧ ov = false) ∨ (er = 0 ∧ ov = true) := by
  by_cases h : er = 0
  ·cases ov
   ·exact Or.inr (Or.inl ⟨h, rfl⟩)
   ·exact Or.inr (Or.inr ⟨h, rfl⟩)
  ·exact Or.inl ⟨h, by rw [bne_iff_ne]; exact h⟩
 cases closed
 all_goals first | rw [if_neg (show ¬ (false = true) by decide)] at hFN | rw [if_pos rfl] at hFN
 all_goals subst hFN
 all_goals rcases hcs with ⟨hnz, qe⟩ | ⟨rfl, rfl⟩ | ⟨rfl, rfl⟩
 all_goals first | simp only [if_pos hnz] | simp only [if_neg (show ¬ ((0 : Int) ≠ 0) from fun h => h rfl)]
 all_goals try simp only [if_pos (show false = false from rfl)]
 all_goals try simp only [if_neg (show ¬ (true = false) by decide)]
 all_goals try (replace HOV := lH (HOV.out rfl))
 all_goals try (replace HTR := lH (HTR.out rfl rfl))
 all_goals try (obtain ⟨hw2, hw2'⟩ := HW2.out rfl rfl)
 all_goals try clear hnz
 all_goals clear HW2
 all_goals go_enter Tryz.func47, Tryz.ntmps47
 all_goals go_wp2_with (first | (go_at_call 32; refine (HN.out _).mono ?_; rintro e1 w1 ⟨b, g, rfl, hpa, hb, qb, qg⟩; have KS1 := lH (K0.out.call hb); have PA1 := lH hpa; have HQ := lH (And.intro qb qg); have B1 := lH (B0.out.trans (hb.mono B0.out.size)); clear hpa hb qb qg; obtain ⟨u0, u1, u2, u3, u4, u5, u6, u7⟩ := bc8 KS1.out 0 1 2 3 4 5 6 7; simp at u0 u1 u2 u3 u4 u5 u6 u7; clear y0 y1 y2 y3 y4 y5 y6 y7) | (go_at_call 51; refine (nfeed_any PA1.out HL.out.1 HL.out.2 HF.out (mx_below' HM.out H0.out B1.out) HP.out _ HY.out HZ.out).mono ?_; rw [HE.out]; rintro e2 w2 ⟨rfl, ⟨vl, va, vf, hpa⟩, ht⟩; have PA2 := lH hpa; have KS2 := lH (KS1.out.touch ht (by have := HQ.out; simp at this; omega)); have B2 := lH (pa_below B1.out (by have := HQ.out; simp at this; omega) (by have := HQ.out; simp at this; omega) ht); clear hpa ht; obtain ⟨v0, v1, v2, v3, v4, v5, v6, v7⟩ := bc8 KS2.out 0 1 2 3 4 5 6 7; simp at v0 v1 v2 v3 v4 v5 v6 v7; clear u0 u1 u2 u3 u4 u5 u6 u7) | (go_at_call 52; refine (HD.out _ _ _ _ _ _ PA2.out).mono ?_; rintro _ _ ⟨rfl, rfl⟩) | (go_at_call 53; refine (nhead_any PA2.out HLEN.out HDH.out).mono ?_; rintro e3 w3 ⟨f, rfl, hfx, hb⟩; obtain ⟨fp, fc, hfv, _⟩ := hfx.flds; subst hfv; have NX4 := lH (nx_new (m := Hm) (t := Ht) (r := Hr) (k := Hk) (st := Hn) (B2.out.trans (hb.mono B2.out.size)) (KS2.out.call hb) B2.out.size hfx); clear hfx hb; obtain ⟨z0, z1, z2, z3, z4, z5, z6, z7⟩ := bc8 NX4.out.s 0 1 2 3 4 5 6 7; simp at z0 z1 z2 z3 z4 z5 z6 z7; have g0 := NX4.out.c0; have g1 := NX4.out.c1; have g2 := NX4.out.c2; have g3 := NX4.out.c3; have g4 := NX4.out.c4; have g5 := NX4.out.c5; dsimp only at g0 g1 g2 g3 g4; clear v0 v1 v2 v3 v4 v5 v6 v7) | (go_at_call 94; refine (HFM.out _ _ NX4.out.o.flds).mono ?_; rintro e5 w5 ⟨rfl, hb⟩; have NX5 := lH (NX4.out.call hb); have NX6 := lH (NX5.out.frame fk fl); clear hb; obtain ⟨p6, p7⟩ := bf2 NX5.out.g 6 7; have pc6 := NX5.out.c6; have pc7 := NX5.out.c7; obtain ⟨q0, q1, q2, q3, q4, q5, q6, q7⟩ := bc8 NX6.out.s 0 1 2 3 4 5 6 7; simp at q0 q1 q2 q3 q4 q5 q6 q7; have s6 := NX6.out.c6; have s7 := NX6.out.c7; clear z0 z1 z2 z3 z4 z5 z6 z7; clear g0 g1 g2 g3 g4 g5) | (go_at_call 55; refine (nbnew_any a fields c d fold fk fl _).mono ?_; rintro e7 w7 ⟨D, V, rfl, hd, hb⟩; have N7 := lH (NX6.out.b.size); have NX7 := lH (NX6.out.call hb); have BD7 := lH hd; clear hd hb; obtain ⟨r0, r1, r2, r3, r4, r5, r6, r7⟩ := bc8 NX7.out.s 0 1 2 3 4 5 6 7; simp at r0 r1 r2 r3 r4 r5 r6 r7; clear q0 q1 q2 q3 q4 q5 q6 q7; clear s6 s7; clear p6 p7; clear pc6 pc7) | (go_at_call 28; refine (nbfeed_any BD7.out HFL.out (Nat.lt_of_lt_of_le H0.out N7.out) (mx_below' HM.out H0.out NX7.out.b) HBF.out _ HY2.out HZ2.out).mono ?_; rintro e8 w8 ⟨vo, V8, rfl, hd, hpc, go, hlen, htt, htr⟩; have NX8 := lH (NX7.out.bod BD7.out go N7.out); have BD8 := lH hd; have PC8 := lH hpc; have HLN := lH (And.intro hlen (And.intro htt htr)); clear hd hpc go hlen htt htr; obtain ⟨k0, k1, k2, k3, k4, k5, k6, k7⟩ := bc8 NX8.out.s 0 1 2 3 4 5 6 7; simp at k0 k1 k2 k3 k4 k5 k6 k7; clear r0 r1 r2 r3 r4 r5 r6 r7) | (go_at_call 95; refine (mgather_any NX8.out.g NX8.out.i PC8.out NX8.out.b.size (by have := HLN.out.1; simp; omega) (by have := HLN.out.2.1; have e : (⟨#[]⟩ : ByteArray).size = 0 := rfl; omega)).mono ?_; rw [← HB1.out, ← HS1.out]; rintro e9 w9 ⟨rfl, z, hq⟩; have NX9 := lH (NX8.out.gath hq); have BD9 := lH (BD8.out.apart hq.t NX8.out.ty); clear hq PC8; obtain ⟨l0, l1, l2, l3, l4, l5, l6, l7⟩ := bc8 NX9.out.s 0 1 2 3 4 5 6 7; simp at l0 l1 l2 l3 l4 l5 l6 l7; clear k0 k1 k2 k3 k4 k5 k6 k7) | (go_at_call 31; refine (bclose_any BD9.out (Nat.zero_le _)).mono ?_; rintro e10 w10 ⟨vc, V10, rfl, hd, hpc, go, _, _⟩; replace NX9 := lH (NX9.out.bod BD9.out go N7.out); replace BD9 := lH hd; have PC10 := lH hpc; clear hd hpc go l0 l1 l2 l3 l4 l5 l6 l7; obtain ⟨m0, m1, m2, m3, m4, m5, m6, m7⟩ := bc8 NX9.out.s 0 1 2 3 4 5 6 7; simp at m0 m1 m2 m3 m4 m5 m6 m7) | (go_at_call 95; refine (mgather_any NX9.out.g NX9.out.i PC10.out NX9.out.b.size (by have := HLN.out.1; have := HS3.out; have := HC.out.1; omega) (by have := HLN.out.2.1; have := HB3.out; have := HC.out.2; omega)).mono ?_; rw [HB2.out, HS2.out]; rintro e11 w11 ⟨rfl, z', hq⟩; replace BD9 := lH (BD9.out.apart hq.t NX9.out.ty); replace NX9 := lH (NX9.out.gath hq); clear hq PC10; obtain ⟨n0, n1, n2, n3, n4, n5, n6, n7⟩ := bc8 NX9.out.s 0 1 2 3 4 5 6 7; simp at n0 n1 n2 n3 n4 n5 n6 n7; clear m0 m1 m2 m3 m4 m5 m6 m7) | (go_at_call 58; refine (HER.out _ _ _ BD9.out.k).mono ?_; rintro _ _ ⟨rfl, rfl⟩) | (go_at_call 59; refine (HOV.out _ _ _ BD9.out.k).mono ?_; rintro _ _ ⟨rfl, rfl⟩) | (go_at_call 60; refine (HTR.out _ _ _ _ BD9.out (by have := HLN.out.2.2; exact this)).mono ?_; rintro e12 w12 ⟨t, rfl, ho, hb⟩; obtain ⟨tp, tc, htv, _⟩ := ho.flds; subst htv; have NX12 := lH (NX9.out.call hb); have NX13 := lH (NX12.out.trail (.slice tp F1.tr.length tc)); have OT := lH (own_touch (ho.lower NX9.out.b.size) ((Touch.refl (fun j => j = _) w12).setCell (p := ⟨_, 10, none⟩) rfl (.slice tp F1.tr.length tc)) (NX12.out.ofG.own ho (by decide))); clear ho hb; have x10 := NX12.out.g.froz 10; have xc10 := NX12.out.c10; have y0 := NX13.out.c0; have y1 := NX13.out.c1; have y2 := NX13.out.c2; have y3 := NX13.out.c3; have y4 := NX13.out.c4; have y5 := NX13.out.c5; have y6 := NX13.out.c6; have y7 := NX13.out.c7; have y8 := NX13.out.c8; have y9 := NX13.out.c9; have y10 := NX13.out.c10; dsimp only at y0 y1 y2 y3 y4) | (go_at_call 93; refine (HB.out _ _ _).mono ?_; rintro eb wb ⟨rfl, hb⟩; have BB := lH (NX9.out.b.trans (hb.mono NX9.out.b.size)); clear hb))
 all_goals go_ret
 all_goals first | exact ⟨rfl, BB.out⟩ | exact ⟨rfl, NX9.out.b⟩ | exact ⟨_, _, _, rfl, NX13.out.b, NX13.out.o, NX13.out.i, OT.out⟩
end Go.Proofs.YtaojfiegnebbdaaGreatDoor
-- MsQ
namespace Go.Proofs.YtaojfiegnebbdaaGreatDoor
open Go.RowKit
theorem gotRead_same (m : Lm) (k n : Int) (closed : Bool) (x : List UInt8) : (gotRead m k n closed x).used = (gotOpen m k n x).used ∧ (gotRead m k n closed x).sizes = (gotOpen m k n x).sizes ∧ (gotRead m k n closed x).body = (gotOpen m k n x).body := by
 unfold gotRead
 simp only
 split
 ·exact ⟨rfl, rfl, rfl⟩
 split
 ·exact ⟨rfl, rfl, rfl⟩
 ·exact ⟨rfl, rfl, rfl⟩
def NextOk (w w' : World) (at_ : Nat) (o : Ending) : OutP → Prop
 | .tail k e => o = .returned (.iface 91 (.agg #[.int .i64 k, .int .i64 (at_ : Int), .int .i64 e]))
 | .whole M u => ∃ f z t, o = .returned (.iface 89 (.agg #[.string M.hd.m, .string M.hd.t, .int .i64 M.hd.k, .int .i64 M.hd.n, .string M.hd.r, f, .int .i64 M.fk, .int .i64 M.fl, .string (strL M.body), z, t, .int .i64 ((at_ + u : Nat) : Int)])) ∧ OwnF w' w.heap.size f M.hd.fs ∧ OwnI w' w.heap.size z M.sizes ∧ OwnF w' w.heap.size t M.tr
theorem nil_strL (l : List UInt8) : (⟨#[]⟩ : ByteArray) ++ strL l = strL l := by
 apply ext_list
 unfold strL
 simp
theorem mnext_any (x : ByteArray) (closed : Bool) (a fields c d fold kind : Int) (at_ : Nat) (method : ByteArray) (w : World) (hk : kind = 1 ∨ kind = 2) (hfi : -9223372036854775808 ≤ fields ∧ fields ≤ 9223372036854775807) {mx : Int} (hm : w.cell? ⟨0, 0, none⟩ = some (.int .i64 mx)) (hx : x.size ≤ 100000) (hat : at_ ≤ x.size) :
 Calls Tryz.prog 47 #[.agg #[.string x, .bool closed, .int .i64 a, .int .i64 fields, .int .i64 c, .int .i64 d, .int .i64 fold, .int .i64 kind], .int .i64 (at_ : Int), .string method] w fun o w' => NextOk w w' at_ o (oneP ⟨a, fields, c, d, fold⟩ closed kind method (x.data.toList.drop at_)) ∧ Below w.heap.size w w' := by
 have hw : 0 < w.heap.size := World.block_lt_of_cell? w _ hm
 unfold oneP
 dsimp only
 by_cases ha : a < 0 ∨ 65536 < a
 ·rw [if_pos ha]
  exact next_head x closed a fields c d fold kind at_ method w ha
 rw [if_neg ha]
 have h0 : 0 ≤ a := by omega
 have h1 : a ≤ 65536 := by omega
 obtain ⟨⟨P1, P2⟩, hP⟩ : ∃ P, pRun kind fields fold (x.data.toList.drop at_) (pa0 a) = P := ⟨_, rfl⟩
 have hp := par_got kind fields fold a (x.data.toList.drop at_)
 have hsz := got_size kind fields fold a (x.data.toList.drop at_)
 have hle := pRun_le kind fields fold (x.data.toList.drop at_) (pa0 a)
 rw [hP] at hp hle
 obtain ⟨p1, p2, p3, p4, p5⟩ := hp
 dsimp only at p1 p2 p3 p4 p5 hle
 generalize gotP kind fields fold a (x.data.toList.drop at_) = g at p1 p2 p3 p4 p5 hsz ⊢
 by_cases he : P1.e = 0
 ·rw [if_neg (show ¬ g.e ≠ 0 from fun h => h (p1 ▸ he))]
  cases hf : P1.fin with
  | false =>
    rw [if_pos (show g.fin = false from p2 ▸ hf)]
    have hD : (P1.fin && P1.e == 0) = false := by rw [hf]; rfl
    cases hb : g.begun with
    | false =>
      rw [if_pos rfl]
      exact next_none x closed a fields c d fold kind at_ method w h0 h1 hk hfi hm hw hx hat hP he hD (p4.trans hb)
    | true =>
      rw [if_neg (by decide)]
      cases closed with
      | false =>
        rw [if_neg (by decide)]
        exact next_part x a fields c d fold kind at_ method w h0 h1 hk hfi hm hw hx hat hP he hD (p4.trans hb)
      | true =>
        rw [if_pos rfl]
        exact next_cut x a fields c d fold kind at_ method w h0 h1 hk hfi hm hw hx hat hP he hD (p4.trans hb)
  | true =>
    have hgf : g.fin = true := p2 ▸ hf
    rw [if_neg (by rw [hgf]; decide)]
    have hu : g.used.toNat = P2 := by rw [← p3]; simp
    rw [hu]
    have hD : (P1.fin && P1.e == 0) = true := by rw [hf, he]; rfl
    have hH : doneH P1 = g.hd := by unfold doneH; rw [if_pos hD]; exact p5 hgf
    obtain ⟨s1, s2⟩ := hsz hgf
    have hX : (x.data.toList.drop at_).length ≤ x.size := by rw [List.length_drop]; have := Lib.size_eq x; omega
    have hl2 : at_ + P2 ≤ x.size := by rw [List.length_drop] at hle; have := Lib.size_eq x; omega
    have hok : FdsOk g.hd.fs := fdsOk_size (nT s1 hX) (nT s2 hX) hx
    have hlen : P1.hd.fs.length ≤ 1000000 := by rw [p5 hgf]; omega
    rw [List.drop_drop]
    generalize g.hd = H at hH hok ⊢
    obtain ⟨Hm, Ht, Hk, Hn, Hr, Hfs⟩ := H
    unfold bodyP
    obtain ⟨⟨fk, fl, fe⟩, hfr⟩ : ∃ F, frmP kind ⟨Hm, Ht, Hk, Hn, Hr, Hfs⟩ method = F := ⟨_, rfl⟩
    have hfl := (frmP_len kind ⟨Hm, Ht, Hk, Hn, Hr, Hfs⟩ method).2
    rw [hfr] at hfl ⊢
    dsimp only at hfl hok ⊢
    by_cases hfe : fe = 0
    ·subst hfe
     rw [if_neg (show ¬ ((0 : Int) ≠ 0) from fun h => h rfl)]
     obtain ⟨⟨F1, F2⟩, hF⟩ : ∃ F, bFeed ⟨a, fields, c, d, fold⟩ (bNew ⟨a, fields, c, d, fold⟩ fk fl) (x.data.toList.drop (at_ + P2)) = F := ⟨_, rfl⟩
     have hfl2 : fl ≤ 9223372036854775807 := by omega
     have hoe := (bRun_ok ⟨a, fields, c, d, fold⟩ ((x.data.toList.drop (at_ + P2)).length + 1) (bNew ⟨a, fields, c, d, fold⟩ fk fl) (x.data.toList.drop (at_ + P2)) (bNew_ok _ fk fl hfl2))
     have hoe1 : F1.over = true → F1.e = 0 := by
      have := hoe.1.oe
      have e : (bRun ⟨a, fields, c, d, fold⟩ ((x.data.toList.drop (at_ + P2)).length + 1) (bNew ⟨a, fields, c, d, fold⟩ fk fl) (x.data.toList.drop (at_ + P2))) = (F1, F2) := hF
      rw [e] at this
      exact this
     have hF2 : F2 ≤ (x.data.toList.drop (at_ + P2)).length := by
      have := hoe.2
      have e : (bRun ⟨a, fields, c, d, fold⟩ ((x.data.toList.drop (at_ + P2)).length + 1) (bNew ⟨a, fields, c, d, fold⟩ fk fl) (x.data.toList.drop (at_ + P2))) = (F1, F2) := hF
      rw [e] at this
      exact this
     have hl3 : at_ + P2 + F2 ≤ x.size := by rw [List.length_drop] at hF2; have := Lib.size_eq x; omega
     have hre := read_eq ⟨a, fields, c, d, fold⟩ fk fl closed (x.data.toList.drop (at_ + P2)) (by rw [hF]; exact hoe1) (bFeed_till _ _ _ _)
     have hop := open_eq ⟨a, fields, c, d, fold⟩ fk fl (x.data.toList.drop (at_ + P2))
     have hsm := gotRead_same ⟨a, fields, c, d, fold⟩ fk fl closed (x.data.toList.drop (at_ + P2))
     rw [hF] at hre hop
     obtain ⟨o1, _, _, _, o5, o6⟩ := hop
     obtain ⟨m1, m2, m3⟩ := hsm
     rw [← m1] at o1
     rw [← m2] at o5
     rw [← m3] at o6
     obtain ⟨r1, r2, r3⟩ := hre
     dsimp only at o1 o5 o6 r1 r2 r3
     generalize gotRead ⟨a, fields, c, d, fold⟩ fk fl closed (x.data.toList.drop (at_ + P2)) = q at o1 o5 o6 r1 r2 r3 ⊢
     have e5 : [] ++ szO F1.out = q.sizes := o5
     have e6 : (⟨#[]⟩ : ByteArray) ++ strL (bdO F1.out) = strL q.body := by rw [nil_strL, show bdO F1.out = q.body from o6]
     have e1 : F2 = q.used := o1
     have hEnd : ∀ {o : Ending} {w' : World}, (∃ f z t, o = .returned (.iface 89 (.agg #[.string Hm, .string Ht, .int .i64 Hk, .int .i64 Hn, .string Hr, f, .int .i64 fk, .int .i64 fl, .string (⟨#[]⟩ ++ strL (bdO F1.out)), z, t, .int .i64 ((at_ + P2 + F2 : Nat) : Int)])) ∧ Below w.heap.size w w' ∧ OwnF w' w.heap.size f Hfs ∧ OwnI w' w.heap.size z ([] ++ szO F1.out) ∧ OwnF w' w.heap.size t F1.tr) → F1.tr = q.tr →
      NextOk w w' at_ o (.whole ⟨⟨Hm, Ht, Hk, Hn, Hr, Hfs⟩, fk, fl, q.body, q.sizes, q.tr⟩ (P2 + q.used)) ∧ Below w.heap.size w w' := by
      rintro o w' ⟨f, z, t, g1, g2, g3, g4, g5⟩ htr
      rw [e5] at g4
      rw [e6, e1, Nat.add_assoc] at g1
      rw [htr] at g5
      exact ⟨⟨f, z, t, g1, g3, g4, g5⟩, g2⟩
     have hfe2 : (if closed = true then bTold (bClose (bTold F1)) else bTold F1).e = q.err := by rw [← r2]; cases closed <;> rfl
     have hfo : q.err = 0 → (if closed = true then bTold (bClose (bTold F1)) else bTold F1).over = q.over := fun _ => by rw [← r1]; cases closed <;> rfl
     have htr : F1.tr = q.tr := by
      rw [← r3]
      cases closed
      ·rfl
      ·exact (bClose_tr (bTold F1)).symm
     refine (next_body x closed a fields c d fold kind at_ method w h0 h1 hk hfi hm hw hx hat hP he hD hlen hH hok hfr hfl2 hF hl2 rfl hfe2 hfo (fun _ _ => hl3)).mono ?_
     intro o w' h
     unfold NextB at h
     by_cases hq : q.err = 0
     ·rw [if_neg (fun h => h hq)] at h
      rw [if_neg (show ¬ q.err ≠ 0 from fun h => h hq)]
      cases hov : q.over with
      | false =>
        rw [hov, if_pos rfl] at h
        rw [if_pos rfl]
        exact h
      | true =>
        rw [hov, if_neg (by decide)] at h
        rw [if_neg (by decide)]
        exact hEnd h htr
     ·rw [if_pos hq] at h
      rw [if_pos hq]
      exact h
    ·rw [if_pos (show fe ≠ 0 from hfe)]
     exact next_frame x closed a fields c d fold kind at_ method w h0 h1 hk hfi hm hw hx hat hP he hD hlen hH hok hfr hfe
 ·rw [if_pos (show g.e ≠ 0 from fun h => he (p1.trans h)), ← p1]
  exact next_wrong x closed a fields c d fold kind at_ method w h0 h1 hk hfi hm hw hx hat hP he
end Go.Proofs.YtaojfiegnebbdaaGreatDoor
-- MsR
namespace Go.Proofs.YtaojfiegnebbdaaGreatDoor
open Go.RowKit
structure MsgV where
 f : Value
 z : Value
 t : Value
def msgL (q : MsgP × MsgV) : List Value := [.string q.1.hd.m, .string q.1.hd.t, .int .i64 q.1.hd.k, .int .i64 q.1.hd.n, .string q.1.hd.r, q.2.f, .int .i64 q.1.fk, .int .i64 q.1.fl, .string (strL q.1.body), q.2.z, q.2.t]
def msgF (l : List (MsgP × MsgV)) : List Value := l.flatMap msgL
theorem msgF_append (a b : List (MsgP × MsgV)) : msgF (a ++ b) = msgF a ++ msgF b := by unfold msgF; rw [List.flatMap_append]
def OwnM (w : World) (B : Nat) (v : Value) (l : List (MsgP × MsgV)) : Prop := w.ownsRow B 46 11 v l.length (msgF l)
theorem OwnM.start (w : World) (B : Nat) : OwnM w B (.slice none 0 0) [] := World.ownsRow_nil _ _ _ _
def MsgIn (w : World) (B : Nat) (q : MsgP × MsgV) : Prop := OwnF w B q.2.f q.1.hd.fs ∧ OwnI w B q.2.z q.1.sizes ∧ OwnF w B q.2.t q.1.tr
theorem info_msg : (Tryz.prog.info? 46).map (fun i => (i.zero, i.size, i.bytes)) = some (some (.agg #[.string ⟨#[]⟩, .string ⟨#[]⟩, .int .i64 0, .int .i64 0, .string ⟨#[]⟩, .slice none 0 0, .int .i64 0, .int .i64 0, .string ⟨#[]⟩, .slice none 0 0, .slice none 0 0]), 11, 168) := by kernel_rfl
theorem own_one {w : World} {B : Nat} {e : TypeId} {size n : Nat} {v : Value} {xs : List Value} (h : w.ownsRow B e size v n xs) : v.oneCell' = true := by
 obtain ⟨_, h⟩ := h
 rcases h with ⟨rfl, _⟩ | ⟨g, cap, cur, rfl, _⟩
 ·rfl
 ·rfl
theorem wpList_push_msg {ops : Array Oper} {rest : List Oper} {o : Oper} {a : Act} {Q : Exit → Act → World → Prop} (hgd : o.guard = none) (s x : Operand)
 (ho : o.op = .call { callee := .builtin .append, args := #[s, x], argTypes := #[52, 52] }) {w : World} {B B2 : Nat} {v : Value} {l : List (MsgP × MsgV)} (hs : a.eval s = v) (hown : OwnM w B v l) (y : MsgP × MsgV) (hy : MsgIn w B2 y)
 {N : Nat} (hx : a.eval x = .slice (some ⟨N, 0, none⟩) 1 1) (hN : N = w.heap.size) (hl : l.length ≤ 1000000) (hB : B ≤ w.heap.size)
 (h : ∀ p c w1, OwnM w1 B (.slice p (l.length + 1) c) (l ++ [y]) → (w.alloc (.cells (msgL y).toArray 46)).grownBy w1 v.ownBlock → Below B w w1 → wpList Tryz.prog ops Q rest (a.put o.dst (.slice p (l.length + 1) c)) w1) :
 wpList Tryz.prog ops Q (o :: rest) a (w.alloc (.cells (msgL y).toArray 46)) := by
 subst hN
 obtain ⟨i0, hi, hz0, hz1, hz2⟩ := info_parts info_msg
 have hla : OwnM (w.alloc (.cells (msgL y).toArray 46)) B v l := own_touch hown ((Touch.refl (fun _ => False) w).alloc _) (fun _ _ => id)
 have hlo := fun j hj => own_ty hla j hj
 refine wpList_append_own _ hgd s x 52 ho B 46 i0 _ 11 168 Tryz.underlying52 hi hz0 hz1 hz2 rfl (by decide) v l.length (msgF l) hs hla ⟨w.heap.size, 0, none⟩ 1 1 (msgL y) hx rfl ?c1 ?c2 ?c3 ?c4 ?c5 ?_
 case c1 => exact World.news_of_block (cs := (msgL y).toArray) (t := 46) (fr := (0, 0)) (heap_alloc_new w _)
 case c2 =>
  intro u hu
  have h1 := own_one hy.1
  have h2 := own_one hy.2.1
  have h3 := own_one hy.2.2
  simp [msgL] at hu
  rcases hu with rfl | rfl | rfl | rfl | rfl | rfl | rfl | rfl | rfl | rfl | rfl
  all_goals first | rfl | assumption
 case c3 => unfold maxLen; omega
 case c4 => omega
 case c5 => simp; omega
 intro v' w1 hown1 hg _
 obtain ⟨p', c', rfl⟩ := own_slice hown1
 refine h p' c' w1 ?_ hg (((Below.refl _ _).alloc hB _).grown hg (by simp; omega) (fun j hj => by have := (hlo j hj).1; omega))
 show w1.ownsRow B 46 11 _ (l ++ [y]).length (msgF (l ++ [y]))
 rw [List.length_append, msgF_append]
 have e : msgF [y] = msgL y := by unfold msgF; simp
 rw [e]
 exact hown1
end Go.Proofs.YtaojfiegnebbdaaGreatDoor
-- MsV
namespace Go.Proofs.YtaojfiegnebbdaaGreatDoor
open Go.RowKit
structure MsgRd (w : World) (q : MsgP × MsgV) : Prop where
 f : Flds w q.2.f q.1.hd.fs
 z : Nums w q.2.z q.1.sizes
 t : Flds w q.2.t q.1.tr
theorem MsgRd.below {w w' : World} {q : MsgP × MsgV} (h : MsgRd w q) (hb : Below w.heap.size w w') : MsgRd w' q := ⟨h.f.below hb, h.z.below hb, h.t.below hb⟩
theorem MsgIn.rd {w : World} {B : Nat} {q : MsgP × MsgV} (h : MsgIn w B q) : MsgRd w q := ⟨h.1.flds, h.2.1.nums, h.2.2.flds⟩
def Msgs (w : World) (v : Value) (l : List (MsgP × MsgV)) : Prop :=
 ∃ p c, v = .slice p l.length c ∧ (∀ i (h : i < l.length), ∃ b off, p = some ⟨b, off, none⟩ ∧ ∀ j, j < 11 → w.cell? ⟨b, off + i * 11 + j, none⟩ = (msgL l[i])[j]?) ∧ ∀ q ∈ l, MsgRd w q
theorem Msgs.below {w w' : World} {v : Value} {l : List (MsgP × MsgV)} (h : Msgs w v l) (hb : Below w.heap.size w w') : Msgs w' v l := by
 obtain ⟨p, c, hv, hc, hr⟩ := h
 refine ⟨p, c, hv, fun i hi => ?_, fun q hq => (hr q hq).below hb⟩
 obtain ⟨b, off, hp, h1⟩ := hc i hi
 refine ⟨b, off, hp, fun j hj => ?_⟩
 have h2 := h1 j hj
 have h3 : (msgL l[i])[j]? = some ((msgL l[i])[j]'(by simpa [msgL] using hj)) := List.getElem?_eq_getElem _
 have hlt := World.block_lt_of_cell? w _ (h2.trans h3)
 exact ((bcell hb) b _ hlt).trans h2
theorem Msgs.nil (w : World) (p : Option Addr) (c : Nat) : Msgs w (.slice p 0 c) [] := ⟨p, c, rfl, fun i hi => absurd hi (Nat.not_lt_zero _), fun q hq => by cases hq⟩
theorem msgL_len (q : MsgP × MsgV) : (msgL q).length = 11 := rfl
theorem msgF_at : ∀ (l : List (MsgP × MsgV)) (i j : Nat) (hi : i < l.length), j < 11 → (msgF l)[i * 11 + j]? = (msgL l[i])[j]?
 | [], i, j, hi, _ => absurd hi (Nat.not_lt_zero _)
 | q :: t, 0, j, hi, hj => by
   have e : msgF (q :: t) = msgL q ++ msgF t := rfl
   rw [e, List.getElem?_append_left (by rw [msgL_len]; omega)]
   simp
 | q :: t, i + 1, j, hi, hj => by
   have e : msgF (q :: t) = msgL q ++ msgF t := rfl
   rw [e, List.getElem?_append_right (by rw [msgL_len]; omega), msgL_len]
   have := msgF_at t i j (by simpa using hi) hj
   rw [show (i + 1) * 11 + j - 11 = i * 11 + j by omega, this]
   simp
theorem OwnM.msgs {w : World} {B : Nat} {v : Value} {l : List (MsgP × MsgV)} (h : OwnM w B v l) (hi : ∀ q ∈ l, MsgIn w B q) : Msgs w v l := by
 obtain ⟨_, h⟩ := h
 rcases h with ⟨rfl, h0⟩ | ⟨g, cap, cur, rfl, _, hg, h1, h2, h3, h4⟩
 ·have : l = [] := List.eq_nil_of_length_eq_zero h0
  subst this
  exact Msgs.nil _ _ _
 ·refine ⟨_, cap, rfl, fun i hi => ⟨g, 0, rfl, fun j hj => ?_⟩, fun q hq => (hi q hq).rd⟩
  have a := msgF_at l i j hi hj
  rw [← h4, List.getElem?_take, if_pos (by omega)] at a
  simp only [World.cell?, hg, Nat.zero_add]
  simp only [Array.getElem?_toList] at a
  exact a
def MsgOk (M : MsgP) : Prop := M.hd.fs.length ≤ 1000000 ∧ M.sizes.length ≤ 1000000 ∧ M.tr.length ≤ 1000000
theorem str_same (a : ByteArray) : (a.toList == a.toList) = true := beq_self_eq_true _
theorem msame_eq (M : MsgP) (V V' : MsgV) (w : World) (h : MsgRd w (M, V)) (h' : MsgRd w (M, V')) (hok : MsgOk M) :
 Calls Tryz.prog 24 #[.agg (msgL (M, V)).toArray, .agg (msgL (M, V')).toArray] w fun e w' => e = .returned (.bool true) ∧ Below w.heap.size w w' := by
 obtain ⟨⟨Mm, Mt, Mk, Mn, Mr, Mf⟩, Mfk, Mfl, Mb, Ms, Mtr⟩ := M
 obtain ⟨vf, vz, vt⟩ := V
 obtain ⟨vf', vz', vt'⟩ := V'
 obtain ⟨o1, o2, o3⟩ := hok
 obtain ⟨S, hS⟩ : ∃ S, S = strL Mb := ⟨_, rfl⟩
 simp only [msgL]
 rw [← hS]
 have HH : Hid (∀ W, Below w.heap.size w W → Calls Tryz.prog 11 #[.agg #[.string Mm, .string Mt, .int .i64 Mk, .int .i64 Mn, .string Mr, vf], .agg #[.string Mm, .string Mt, .int .i64 Mk, .int .i64 Mn, .string Mr, vf']] W fun e w' => e = .returned (.bool true) ∧ Below W.heap.size W w') := by
  show ∀ W, _ → _
  intro W hW
  have := hsame_any Mm Mt Mr Mm Mt Mr Mk Mn Mk Mn vf vf' Mf Mf (str_same _) (str_same _) (beq_self_eq_true _) (beq_self_eq_true _) (str_same _) W (h.f.below hW) (h'.f.below hW) (nT o1 (by decide)) (nT o1 (by decide))
  simpa using this
 have HI : Hid (∀ W, Below w.heap.size w W → Calls Tryz.prog 48 #[vz, vz'] W fun e w' => e = .returned (.bool true) ∧ Below W.heap.size W w') := by
  show ∀ W, _ → _
  intro W hW
  have := isame_any vz vz' Ms Ms W (h.z.below hW) (h'.z.below hW) (nT o2 (by decide)) (nT o2 (by decide))
  simpa using this
 have HT : Hid (∀ W, Below w.heap.size w W → Calls Tryz.prog 35 #[vt, vt'] W fun e w' => e = .returned (.bool true) ∧ Below W.heap.size W w') := by
  show ∀ W, _ → _
  intro W hW
  have := fsame_any vt vt' Mtr Mtr W (h.t.below hW) (h'.t.below hW) (nT o3 (by decide)) (nT o3 (by decide))
  simpa using this
 obtain ⟨fp, fc, e1, _⟩ := h.f
 obtain ⟨zp, zc, e2, _⟩ := h.z
 obtain ⟨tp, tc, e3, _⟩ := h.t
 obtain ⟨fp', fc', e4, _⟩ := h'.f
 obtain ⟨zp', zc', e5, _⟩ := h'.z
 obtain ⟨tp', tc', e6, _⟩ := h'.t
 simp only at e1 e2 e3 e4 e5 e6
 subst e1 e2 e3 e4 e5 e6
 have K0 : Hid (Blk ((w.alloc (.cells #[.string Mm, .string Mt, .int .i64 Mk, .int .i64 Mn, .string Mr, .slice fp Mf.length fc, .int .i64 Mfk, .int .i64 Mfl, .string S, .slice zp Ms.length zc, .slice tp Mtr.length tc] 46)).alloc (.cells #[.string Mm, .string Mt, .int .i64 Mk, .int .i64 Mn, .string Mr, .slice fp' Mf.length fc', .int .i64 Mfk, .int .i64 Mfl, .string S, .slice zp' Ms.length zc', .slice tp' Mtr.length tc'] 46)) w.heap.size #[.string Mm, .string Mt, .int .i64 Mk, .int .i64 Mn, .string Mr, .slice fp Mf.length fc, .int .i64 Mfk, .int .i64 Mfl, .string S, .slice zp Ms.length zc, .slice tp Mtr.length tc] 46) := (Blk.new w _ _).alloc _
 have K1 : Hid (Blk ((w.alloc (.cells #[.string Mm, .string Mt, .int .i64 Mk, .int .i64 Mn, .string Mr, .slice fp Mf.length fc, .int .i64 Mfk, .int .i64 Mfl, .string S, .slice zp Ms.length zc, .slice tp Mtr.length tc] 46)).alloc (.cells #[.string Mm, .string Mt, .int .i64 Mk, .int .i64 Mn, .string Mr, .slice fp' Mf.length fc', .int .i64 Mfk, .int .i64 Mfl, .string S, .slice zp' Ms.length zc', .slice tp' Mtr.length tc'] 46)) (w.heap.size + 1) #[.string Mm, .string Mt, .int .i64 Mk, .int .i64 Mn, .string Mr, .slice fp' Mf.length fc', .int .i64 Mfk, .int .i64 Mfl, .string S, .slice zp' Ms.length zc', .slice tp' Mtr.length tc'] 46) := Blk.new' (by simp)
 have HB0 : Hid (Below w.heap.size w ((w.alloc (.cells #[.string Mm, .string Mt, .int .i64 Mk, .int .i64 Mn, .string Mr, .slice fp Mf.length fc, .int .i64 Mfk, .int .i64 Mfl, .string S, .slice zp Ms.length zc, .slice tp Mtr.length tc] 46)).alloc (.cells #[.string Mm, .string Mt, .int .i64 Mk, .int .i64 Mn, .string Mr, .slice fp' Mf.length fc', .int .i64 Mfk, .int .i64 Mfl, .string S, .slice zp' Ms.length zc', .slice tp' Mtr.length tc'] 46))) := ((Below.refl _ _).alloc (nR _) _).alloc (by simp) _
 have s1 : (Mfk == Mfk) = true := beq_self_eq_true _
 have s2 : (Mfl == Mfl) = true := beq_self_eq_true _
 have s3 : (S.toList == S.toList) = true := beq_self_eq_true _
 clear h h' o1 o2 o3 hS
 go_enter Tryz.func24, Tryz.ntmps24
 go_wp2_with (first | (go_at_call 11; refine (HH.out _ HB0.out).mono ?_; rintro e1 w1 ⟨rfl, hb1⟩; have L0 := lH (K0.out.call hb1); have L1 := lH (K1.out.call hb1); have HB1 := lH (HB0.out.trans (hb1.mono HB0.out.size)); clear hb1 HH; obtain ⟨a6, a7, a8, a9⟩ := bc4 L0.out 6 7 8 9; obtain ⟨b6, b7, b8, b9⟩ := bc4 L1.out 6 7 8 9; simp at a6 a7 a8 a9 b6 b7 b8 b9) | (go_at_call 48; refine (HI.out _ HB1.out).mono ?_; rintro e2 w2 ⟨rfl, hb2⟩; have HB2 := lH (HB1.out.trans (hb2.mono HB1.out.size)); have a10 := (L0.out.call hb2).cell 10; have b10 := (L1.out.call hb2).cell 10; clear hb2 HI a6 a7 a8 a9 b6 b7 b8 b9; simp at a10 b10) | (go_at_call 35; refine (HT.out _ HB2.out).mono ?_; rintro e3 w3 ⟨rfl, hb3⟩; have HB3 := lH (HB2.out.trans (hb3.mono HB2.out.size)); clear hb3 HT a10 b10))
 go_ret
 exact ⟨rfl, HB3.out⟩
end Go.Proofs.YtaojfiegnebbdaaGreatDoor
-- MsO
namespace Go.Proofs.YtaojfiegnebbdaaGreatDoor
open Go.RowKit
theorem Msgs.take {w : World} {p : Option Addr} {n c c' : Nat} {l : List (MsgP × MsgV)} (h : Msgs w (.slice p n c) l) (k : Nat) (hk : k ≤ l.length) : Msgs w (.slice p k c') (l.take k) := by
 obtain ⟨p', c2, hv, hc, hr⟩ := h
 injection hv with h1 h2 h3
 subst h1
 refine ⟨p, c', by rw [List.length_take, Nat.min_eq_left hk], fun i hi => ?_, fun q hq => hr q (List.mem_of_mem_take hq)⟩
 rw [List.length_take] at hi
 obtain ⟨b, off, hp, h4⟩ := hc i (by omega)
 refine ⟨b, off, hp, fun j hj => ?_⟩
 rw [h4 j hj, List.getElem_take]
theorem OwnM.cap {w : World} {B : Nat} {v : Value} {l : List (MsgP × MsgV)} (h : OwnM w B v l) : ∃ p c, v = .slice p l.length c ∧ l.length ≤ c ∧ (p = none → l = []) := by
 obtain ⟨_, h⟩ := h
 rcases h with ⟨rfl, h0⟩ | ⟨g, cap, cur, rfl, _, _, h1, _⟩
 ·have : l = [] := List.eq_nil_of_length_eq_zero h0
  subst this
  exact ⟨none, 0, rfl, nR _, fun _ => rfl⟩
 ·exact ⟨_, cap, rfl, h1, fun e => by cases e⟩
end Go.Proofs.YtaojfiegnebbdaaGreatDoor
-- MsS
namespace Go.Proofs.YtaojfiegnebbdaaGreatDoor
open Go.RowKit
theorem MsgIn.call {w w1 : World} {B : Nat} {q : MsgP × MsgV} (h : MsgIn w B q) (hb : Below w.heap.size w w1) : MsgIn w1 B q := ⟨h.1.call hb, h.2.1.call hb, h.2.2.call hb⟩
theorem MsgIn.lower {w : World} {B B' : Nat} {q : MsgP × MsgV} (h : MsgIn w B q) (hB : B' ≤ B) : MsgIn w B' q := ⟨h.1.lower hB, ⟨h.2.1.1, by obtain ⟨_, h2⟩ := h.2.1; rcases h2 with h2 | ⟨g, cap, cur, hv, hg, r⟩; exact Or.inl h2; exact Or.inr ⟨g, cap, cur, hv, nT hB hg, r⟩⟩, h.2.2.lower hB⟩
theorem MsgIn.touch {P : Nat → Prop} {w w1 : World} {B : Nat} {q : MsgP × MsgV} (h : MsgIn w B q) (t : Touch P w w1) (hP : OfTy w P [46]) : MsgIn w1 B q :=
 ⟨own_touch h.1 t (hP.own h.1 (by decide)), own_touch h.2.1 t (hP.own h.2.1 (by decide)), own_touch h.2.2 t (hP.own h.2.2 (by decide))⟩
theorem as_t1 (v : Value) (W : World) : (Instr.typeAssert (.iface 91 v) 86 89 true).run Tryz.prog W = .ok (.tuple #[.agg #[.string ⟨#[]⟩, .string ⟨#[]⟩, .int .i64 0, .int .i64 0, .string ⟨#[]⟩, .slice none 0 0, .int .i64 0, .int .i64 0, .string ⟨#[]⟩, .slice none 0 0, .slice none 0 0, .int .i64 0], .bool false]) W := by kernel_rfl
theorem as_t2 (v : Value) (W : World) : (Instr.typeAssert (.iface 91 v) 86 91 false).run Tryz.prog W = .ok v W := by kernel_rfl
theorem as_w1 (v : Value) (W : World) : (Instr.typeAssert (.iface 89 v) 86 89 true).run Tryz.prog W = .ok (.tuple #[v, .bool true]) W := by kernel_rfl
structure RqAt (w W : World) (R : Array Value) (v : Value) (l : List (MsgP × MsgV)) : Prop where
 b : Below w.heap.size w W
 s : Blk W (w.heap.size + 2) R 84
 t : Blk W (w.heap.size + 1) #[.int .i64 0, .int .i64 0, .int .i64 0] 54
 o : OwnM W w.heap.size v l
 i : ∀ q ∈ l, MsgIn W w.heap.size q
theorem RqAt.call {w W W1 : World} {R : Array Value} {v : Value} {l : List (MsgP × MsgV)} (h : RqAt w W R v l) (hb : Below W.heap.size W W1) : RqAt w W1 R v l :=
 ⟨h.b.trans (hb.mono h.b.size), h.s.call hb, h.t.call hb, own_touch h.o (P := fun _ => False) (Touch.of_below hb) (fun _ _ => id), fun q hq => (h.i q hq).call hb⟩
theorem RqAt.more {w W W1 : World} {R : Array Value} {v v' : Value} {l : List (MsgP × MsgV)} (h : RqAt w W R v l) (y : MsgP × MsgV) (hy : MsgIn W w.heap.size y) (o : OwnM W1 w.heap.size v' (l ++ [y])) (t : Touch (fun j => v.ownBlock = some j) W W1) : RqAt w W1 R v' (l ++ [y]) := by
 have hP : OfTy W (fun j => v.ownBlock = some j) [46] := fun j hj => by
  obtain ⟨_, cs, hb⟩ := own_ty h.o j hj
  exact ⟨_, _, by decide, hb⟩
 refine ⟨h.b.trans (t.below (fun k _ hk => (own_ty h.o k hk).1) h.b.size), h.s.touch t (hP.not h.s (by decide)), h.t.touch t (hP.not h.t (by decide)), o, fun q hq => ?_⟩
 rcases List.mem_append.1 hq with hq | hq
 ·exact (h.i q hq).touch t hP
 ·rw [List.mem_singleton.1 hq]; exact hy.touch t hP
theorem RqAt.push {w W W1 : World} {R : Array Value} {v v' : Value} {l : List (MsgP × MsgV)} (h : RqAt w W R v l) {O : Obj} (y : MsgP × MsgV) (hy : MsgIn W w.heap.size y) (o : OwnM W1 w.heap.size v' (l ++ [y])) (hg : (W.alloc O).grownBy W1 v.ownBlock) : RqAt w W1 R v' (l ++ [y]) :=
 h.more y hy o (touch_into ((Touch.refl (fun j => v.ownBlock = some j) W).alloc O) (Q := fun j => v.ownBlock = some j) ⟨hg.os, hg.tape, hg.output, hg.size, fun k hk hne => hg.block k hk (fun e => hne e.symm)⟩ (fun _ _ e => e))
theorem results_tc {fn : Func} {t p : Tmp} {ty : TypeId} (h : fn.results = #[.tmp t, .cell p ty]) (tmps : Array Value) (P : Program) (w : World) (g : Nat) (cs : Array Value)
 (hp : tmps.getD p undef = .pointer (some ⟨g, 0, none⟩)) (hl : (loadVar ty ⟨g, 0, none⟩).run P w = .ok (.agg cs) w) : (results fn tmps).run P w = .ok (.tuple #[tmps.getD t undef, .agg cs]) w := by
 simp only [Array.getD_eq_getD_getElem?] at hp
 simp only [results, h]
 simp [Sem.run_bind, Result.andThen, hp, asAddr, hl, Sem.run_pure]
theorem tail_set3 {w : World} {g : Nat} {t : TypeId} {x0 x1 x2 : Value} (h : Blk w g #[x0, x1, x2] t) (a b c : Value) : Blk (((w.setCell ⟨g, 0, none⟩ a).setCell ⟨g, 1, none⟩ b).setCell ⟨g, 2, none⟩ c) g #[a, b, c] t := by
 have := ((h.set 0 a).set 1 b).set 2 c
 simpa using this
theorem RqAt.tail {w W : World} {R : Array Value} {v : Value} {l : List (MsgP × MsgV)} (h : RqAt w W R v l) (a b c : Value) : OwnM (((W.setCell ⟨w.heap.size + 1, 0, none⟩ a).setCell ⟨w.heap.size + 1, 1, none⟩ b).setCell ⟨w.heap.size + 1, 2, none⟩ c) w.heap.size v l ∧ (∀ q ∈ l, MsgIn (((W.setCell ⟨w.heap.size + 1, 0, none⟩ a).setCell ⟨w.heap.size + 1, 1, none⟩ b).setCell ⟨w.heap.size + 1, 2, none⟩ c) w.heap.size q) ∧ Below w.heap.size w (((W.setCell ⟨w.heap.size + 1, 0, none⟩ a).setCell ⟨w.heap.size + 1, 1, none⟩ b).setCell ⟨w.heap.size + 1, 2, none⟩ c) := by
 have T : Touch (fun j => j = w.heap.size + 1) W (((W.setCell ⟨w.heap.size + 1, 0, none⟩ a).setCell ⟨w.heap.size + 1, 1, none⟩ b).setCell ⟨w.heap.size + 1, 2, none⟩ c) := (((Touch.refl (fun j => j = w.heap.size + 1) W).setCell (p := ⟨w.heap.size + 1, 0, none⟩) rfl _).setCell (p := ⟨w.heap.size + 1, 1, none⟩) rfl _).setCell (p := ⟨w.heap.size + 1, 2, none⟩) rfl _
 have hP : OfTy W (fun j => j = w.heap.size + 1) [54] := fun j e => ⟨_, _, by decide, e ▸ h.t⟩
 refine ⟨own_touch h.o T (hP.own h.o (by decide)), fun q hq => ?_, ((h.b.setCell (Nat.le_succ _) _).setCell (Nat.le_succ _) _).setCell (Nat.le_succ _) _⟩
 have hi := h.i q hq
 exact ⟨own_touch hi.1 T (hP.own hi.1 (by decide)), own_touch hi.2.1 T (hP.own hi.2.1 (by decide)), own_touch hi.2.2 T (hP.own hi.2.2 (by decide))⟩
theorem mreqs_any (x : ByteArray) (closed : Bool) (a fields c d fold : Int) (w : World) (hfi : -9223372036854775808 ≤ fields ∧ fields ≤ 9223372036854775807) {mx : Int} (hm : w.cell? ⟨0, 0, none⟩ = some (.int .i64 mx)) (hx : x.size ≤ 100000) {R : List MsgP × (Int × Nat × Int)} (hR : reqsP ⟨a, fields, c, d, fold⟩ closed (x.size + 1) x.data.toList 0 [] = R) :
 Calls Tryz.prog 22 #[.string x, .bool closed, .agg #[.int .i64 a, .int .i64 fields, .int .i64 c, .int .i64 d, .int .i64 fold]] w fun e w' => ∃ v l, e = .returned (.tuple #[v, .agg #[.int .i64 R.2.1, .int .i64 (R.2.2.1 : Int), .int .i64 R.2.2.2]]) ∧ l.map (·.1) = R.1 ∧ OwnM w' w.heap.size v l ∧ (∀ q ∈ l, MsgIn w' w.heap.size q) ∧ Below w.heap.size w w' := by
 have hw : 0 < w.heap.size := World.block_lt_of_cell? w _ hm
 have H1 : Hid (RqAt w (((w.alloc (.cells #[.int .i64 a, .int .i64 fields, .int .i64 c, .int .i64 d, .int .i64 fold] 42)).alloc (.cells #[.int .i64 0, .int .i64 0, .int .i64 0] 54)).alloc (.cells #[.string x, .bool closed, .int .i64 a, .int .i64 fields, .int .i64 c, .int .i64 d, .int .i64 fold, .int .i64 1] 84)) #[.string x, .bool closed, .int .i64 a, .int .i64 fields, .int .i64 c, .int .i64 d, .int .i64 fold, .int .i64 1] (.slice none 0 0) []) := ⟨((((Below.refl _ _).alloc (nR _) _).alloc (by simp) _).alloc (by simp; omega) _), Blk.new' (by simp), (Blk.new' (by simp)).alloc _, OwnM.start _ _, fun q hq => by cases hq⟩
 have HM := lH hm
 have H0 := lH hw
 have HX := lH hx
 have HF := lH hfi
 have HR := lH hR
 clear hm hw hx hfi hR
 go_enter Tryz.func22, Tryz.ntmps22
 go_wp2_with fail
 go_loopw [9, 10] (fun u9 u10 wr => ∃ (v : Value) (l : List (MsgP × MsgV)) (at_ f : Nat), u9 = v ∧ u10 = .int .i64 (at_ : Int) ∧ at_ ≤ x.size ∧ x.size - at_ + 1 ≤ f ∧ l.length ≤ at_ ∧ reqsP ⟨a, fields, c, d, fold⟩ closed f (x.data.toList.drop at_) at_ (l.map (·.1)) = R ∧ RqAt w wr #[.string x, .bool closed, .int .i64 a, .int .i64 fields, .int .i64 c, .int .i64 d, .int .i64 fold, .int .i64 1] v l) (fun _ u10 _ => x.size - (intOf u10).toNat)
 case atStart => exact ⟨_, [], 0, x.size + 1, rfl, rfl, Nat.zero_le _, by omega, nR _, HR.out, H1.out⟩
 case round =>
  obtain ⟨v, l, at_, f, rfl, rfl, hat, hf, hll, hr, hq⟩ := hrel
  obtain ⟨f, rfl⟩ : ∃ f', f = f' + 1 := ⟨f - 1, by omega⟩
  have HQ := lH hq
  have HAT := lH hat
  have HN : Hid (Calls Tryz.prog 47 #[.agg #[.string x, .bool closed, .int .i64 a, .int .i64 fields, .int .i64 c, .int .i64 d, .int .i64 fold, .int .i64 1], .int .i64 (at_ : Int), .string ⟨#[]⟩] wr fun o w' => NextOk wr w' at_ o (oneP ⟨a, fields, c, d, fold⟩ closed 1 ⟨#[]⟩ (x.data.toList.drop at_)) ∧ Below wr.heap.size wr w') := mnext_any x closed a fields c d fold 1 at_ ⟨#[]⟩ wr (Or.inl rfl) HF.out (mx_below' HM.out H0.out HQ.out.b) HX.out HAT.out
  obtain ⟨y0, y1, y2, y3, y4, y5, y6, y7⟩ := bc8 HQ.out.s 0 1 2 3 4 5 6 7
  simp at y0 y1 y2 y3 y4 y5 y6 y7
  rw [reqsP] at hr
  clear hq hat
  cases ho : oneP ⟨a, fields, c, d, fold⟩ closed 1 ⟨#[]⟩ (x.data.toList.drop at_) with
  | tail k e =>
    rw [ho] at hr HN
    have HRR : Hid ((l.map (·.1), (k, at_, e)) = R) := hr
    clear hr ho hf hll
    have t1 := as_t1
    have t2 := as_t2
    go_wp2_with (first | (go_at_call 47; refine HN.out.mono ?_; rintro e1 w1 ⟨h1, hb⟩; have h2 : e1 = _ := h1; subst h2; clear h1; have HQ1 := lH (HQ.out.call hb); clear hb; obtain ⟨z0, z1, z2⟩ := bc3 HQ1.out.t 0 1 2; simp at z0 z1 z2; obtain ⟨q0, q1, q2⟩ := bf3 HQ1.out.t 0 1 2; clear y0 y1 y2 y3 y4 y5 y6 y7))
    have HQ2 := lH (HQ1.out.call (W1 := (w1.alloc (.cells #[.string ⟨#[]⟩, .string ⟨#[]⟩, .int .i64 0, .int .i64 0, .string ⟨#[]⟩, .slice none 0 0, .int .i64 0, .int .i64 0, .string ⟨#[]⟩, .slice none 0 0, .slice none 0 0, .int .i64 0] 89))) ((Below.refl _ _).alloc (nR _) _))
    have HQ3 : Hid (∀ n, RqAt w ((w1.alloc (.cells #[.string ⟨#[]⟩, .string ⟨#[]⟩, .int .i64 0, .int .i64 0, .string ⟨#[]⟩, .slice none 0 0, .int .i64 0, .int .i64 0, .string ⟨#[]⟩, .slice none 0 0, .slice none 0 0, .int .i64 0] 89)).drewN n) #[.string x, .bool closed, .int .i64 a, .int .i64 fields, .int .i64 c, .int .i64 d, .int .i64 fold, .int .i64 1] u9 l) := fun n => HQ2.out.call ⟨rfl, rfl, rfl, nR _, fun _ _ => rfl⟩
    clear z0 z1 z2 q0 q1 q2
    refine wp_region_drew_tail 4 (by kernel_rfl) (by kernel_rfl) ?_
    simp only [List.take_succ_cons, List.take_zero, List.drop_succ_cons, List.drop_zero]
    repeat go_big_quiet_step (fail)
    refine wpQuiet_nil ?_
    rintro _ ⟨nq, rfl⟩
    obtain ⟨z0, z1, z2⟩ := bc3 ((HQ3.out nq).t) 0 1 2
    simp at z0 z1 z2
    obtain ⟨q0, q1, q2⟩ := bf3 ((HQ3.out nq).t) 0 1 2
    go_wp2_with fail
    have hRR := HRR.out
    subst hRR
    obtain ⟨g1, g2, g3⟩ := (HQ3.out nq).tail (.int .i64 k) (.int .i64 (at_ : Int)) (.int .i64 e)
    exact bodyPost_ret (results_tc Tryz.results22 _ _ _ _ _ rfl (run_loadVar_row _ _ _ _ _ _ _ (tail_set3 (HQ3.out nq).t _ _ _) Tryz.underlying54 rfl (by kernel_rfl))) rfl ⟨_, l, rfl, rfl, g1, g2, g3⟩
  | whole M u =>
    rw [ho] at hr HN
    obtain ⟨⟨Mm, Mt, Mk, Mn, Mr, Mf⟩, Mfk, Mfl, Mb, Ms, Mtr⟩ := M
    have t1 := as_w1
    have HLL := lH hll
    obtain ⟨u0, u1⟩ := oneP_used ho
    have HU := lH (And.intro u0 u1)
    have HRR := lH hr
    have HFF := lH hf
    clear hr ho hf hll u0 u1
    go_wp2_with (first | (go_at_call 47; refine HN.out.mono ?_; rintro e1 w1 ⟨⟨vf, vz, vt, h1, of1, oi1, ot1⟩, hb⟩; subst h1; obtain ⟨fp, fc, hfv, _⟩ := of1.flds; subst hfv; obtain ⟨zp, zc, hzv⟩ := oi1.shape; subst hzv; obtain ⟨tp, tc, htv, _⟩ := ot1.flds; subst htv; have HQ1 := lH (HQ.out.call hb); have HY1 : Hid (MsgIn w1 wr.heap.size (⟨⟨Mm, Mt, Mk, Mn, Mr, Mf⟩, Mfk, Mfl, Mb, Ms, Mtr⟩, ⟨_, _, _⟩)) := (show MsgIn w1 wr.heap.size (⟨⟨Mm, Mt, Mk, Mn, Mr, Mf⟩, Mfk, Mfl, Mb, Ms, Mtr⟩, ⟨_, _, _⟩) from ⟨of1, oi1, ot1⟩); clear hb of1 oi1 ot1; clear y0 y1 y2 y3 y4 y5 y6 y7) | (at_builtin; refine wpList_push_msg rfl _ _ rfl rfl (HQ1.out.call ((Below.refl w1.heap.size w1).alloc (nR _) _)).o _ (HY1.out.call ((Below.refl w1.heap.size w1).alloc (nR _) _)) rfl (by simp) (by have := HLL.out; have := HAT.out; have := HX.out; omega) (HQ1.out.call ((Below.refl w1.heap.size w1).alloc (nR _) _)).b.size ?_; intro p4 c4 w4 ho4 hg4 hb4; have HQ4 := lH ((HQ1.out.call ((Below.refl w1.heap.size w1).alloc (nR _) _)).push _ ((HY1.out.call ((Below.refl w1.heap.size w1).alloc (nR _) _)).lower HQ.out.b.size) ho4 hg4); clear ho4 hg4 hb4) | (go_at_call 50; refine (mbehind_whole _ _ _ _ _ _ _ _ _ _ _ _ _).mono ?_; rintro e5 w5 ⟨rfl, hb⟩; have HQ5 := lH (HQ4.out.call hb); clear hb))
    go_roundw
    case rel =>
     have h1 := HU.out.1
     have h2 := HU.out.2
     have h3 := HFF.out
     have h4 := HLL.out
     have h5 := HAT.out
     rw [List.length_drop] at h2
     have h6 := Lib.size_eq x
     refine ⟨_, _, at_ + u, f, rfl, by simp, by omega, by omega, by rw [List.length_append]; simp only [List.length_cons, List.length_nil]; omega, ?_, HQ5.out⟩
     rw [List.map_append, ← List.drop_drop]
     exact HRR.out
    case measure =>
     have h1 := HU.out.1
     have h2 := HU.out.2
     have h6 := Lib.size_eq x
     rw [List.length_drop] at h2
     simp [intOf]
     omega
end Go.Proofs.YtaojfiegnebbdaaGreatDoor
-- MsU
namespace Go.Proofs.YtaojfiegnebbdaaGreatDoor
open Go.RowKit
theorem RqAt.apart {w W W1 : World} {R : Array Value} {v : Value} {l : List (MsgP × MsgV)} (h : RqAt w W R v l) {O : Obj} (hg : (W.alloc O).grownBy W1 v.ownBlock) {g : Nat} {cs : Array Value} {t : TypeId} (hb : Blk W g cs t) (ht : t ∉ [46]) : Blk W1 g cs t := by
 have hP : OfTy W (fun j => v.ownBlock = some j) [46] := fun j hj => by
  obtain ⟨_, cs, hb⟩ := own_ty h.o j hj
  exact ⟨_, _, by decide, hb⟩
 exact hb.touch (touch_into ((Touch.refl (fun j => v.ownBlock = some j) W).alloc O) (Q := fun j => v.ownBlock = some j) ⟨hg.os, hg.tape, hg.output, hg.size, fun k hk hne => hg.block k hk (fun e => hne e.symm)⟩ (fun _ _ e => e)) (hP.not hb ht)
theorem as_t3 (v : Value) (W : World) : (Instr.typeAssert (.iface 91 v) 86 91 true).run Tryz.prog W = .ok (.tuple #[v, .bool true]) W := by kernel_rfl
theorem mresps_any (x : ByteArray) (closed : Bool) (vm : Value) (ms : List ByteArray) (a fields c d fold : Int) (w : World) (hv : Strs w vm ms) (hml : ms.length ≤ 100000) (hfi : -9223372036854775808 ≤ fields ∧ fields ≤ 9223372036854775807) {mx : Int} (hm : w.cell? ⟨0, 0, none⟩ = some (.int .i64 mx)) (hx : x.size ≤ 100000) {R : List MsgP × (Int × Nat × Int)} (hR : respsP ⟨a, fields, c, d, fold⟩ closed (x.size + 1) ms x.data.toList 0 [] = R) :
 Calls Tryz.prog 26 #[.string x, .bool closed, vm, .agg #[.int .i64 a, .int .i64 fields, .int .i64 c, .int .i64 d, .int .i64 fold]] w fun e w' => ∃ v l, e = .returned (.tuple #[v, .agg #[.int .i64 R.2.1, .int .i64 (R.2.2.1 : Int), .int .i64 R.2.2.2]]) ∧ l.map (·.1) = R.1 ∧ OwnM w' w.heap.size v l ∧ (∀ q ∈ l, MsgIn w' w.heap.size q) ∧ Below w.heap.size w w' := by
 have hw : 0 < w.heap.size := World.block_lt_of_cell? w _ hm
 have H1 : Hid (RqAt w (((w.alloc (.cells #[.int .i64 a, .int .i64 fields, .int .i64 c, .int .i64 d, .int .i64 fold] 42)).alloc (.cells #[.int .i64 0, .int .i64 0, .int .i64 0] 54)).alloc (.cells #[.string x, .bool closed, .int .i64 a, .int .i64 fields, .int .i64 c, .int .i64 d, .int .i64 fold, .int .i64 2] 84)) #[.string x, .bool closed, .int .i64 a, .int .i64 fields, .int .i64 c, .int .i64 d, .int .i64 fold, .int .i64 2] (.slice none 0 0) []) := ⟨((((Below.refl _ _).alloc (nR _) _).alloc (by simp) _).alloc (by simp; omega) _), Blk.new' (by simp), (Blk.new' (by simp)).alloc _, OwnM.start _ _, fun q hq => by cases hq⟩
 have HM := lH hm
 have H0 := lH hw
 have HX := lH hx
 have HF := lH hfi
 have HR := lH hR
 have HV := lH hv
 have HML := lH hml
 obtain ⟨mp, mc, hmv, _⟩ := hv
 subst hmv
 clear hm hw hx hfi hR hml
 go_enter Tryz.func26, Tryz.ntmps26
 go_wp2_with fail
 go_loopw [11, 12, 13] (fun u11 u12 u13 wr => ∃ (v : Value) (l : List (MsgP × MsgV)) (at_ i f : Nat), u11 = v ∧ u12 = .int .i64 (at_ : Int) ∧ u13 = .int .i64 (i : Int) ∧ at_ ≤ x.size ∧ i ≤ ms.length ∧ x.size - at_ + 1 ≤ f ∧ l.length ≤ at_ ∧ respsP ⟨a, fields, c, d, fold⟩ closed f (ms.drop i) (x.data.toList.drop at_) at_ (l.map (·.1)) = R ∧ RqAt w wr #[.string x, .bool closed, .int .i64 a, .int .i64 fields, .int .i64 c, .int .i64 d, .int .i64 fold, .int .i64 2] v l) (fun _ u12 _ _ => x.size - (intOf u12).toNat)
 case atStart => exact ⟨_, [], 0, 0, x.size + 1, rfl, rfl, rfl, Nat.zero_le _, Nat.zero_le _, by omega, nR _, HR.out, H1.out⟩
 case round =>
  obtain ⟨v, l, at_, i, f, rfl, rfl, rfl, hat, hi, hf, hll, hr, hq⟩ := hrel
  obtain ⟨f, rfl⟩ : ∃ f', f = f' + 1 := ⟨f - 1, by omega⟩
  have HQ := lH hq
  have HAT := lH hat
  have y0 : wr.cell? ⟨w.heap.size + 1 + 1, 0, none⟩ = some (.string x) := HQ.out.s.cell 0
  have y1 : wr.cell? ⟨w.heap.size + 1 + 1, 1, none⟩ = some (.bool closed) := HQ.out.s.cell 1
  have y2 : wr.cell? ⟨w.heap.size + 1 + 1, 2, none⟩ = some (.int .i64 a) := HQ.out.s.cell 2
  have y3 : wr.cell? ⟨w.heap.size + 1 + 1, 3, none⟩ = some (.int .i64 fields) := HQ.out.s.cell 3
  have y4 : wr.cell? ⟨w.heap.size + 1 + 1, 4, none⟩ = some (.int .i64 c) := HQ.out.s.cell 4
  have y5 : wr.cell? ⟨w.heap.size + 1 + 1, 5, none⟩ = some (.int .i64 d) := HQ.out.s.cell 5
  have y6 : wr.cell? ⟨w.heap.size + 1 + 1, 6, none⟩ = some (.int .i64 fold) := HQ.out.s.cell 6
  have y7 : wr.cell? ⟨w.heap.size + 1 + 1, 7, none⟩ = some (.int .i64 2) := HQ.out.s.cell 7
  have hml := HML.out
  by_cases hlt : i < ms.length
  ·have hd1 : decide ((i : Int) < (ms.length : Int)) = true := dT (by omega)
   have hd2 : decide (i < ms.length) = true := dT hlt
   obtain ⟨tm, htm⟩ : ∃ t, t = ms[i] := ⟨_, rfl⟩
   have hdr : ms.drop i = tm :: ms.drop (i + 1) := by rw [htm]; exact List.drop_eq_getElem_cons hlt
   obtain ⟨p', c', hv', hc⟩ := HV.out.below HQ.out.b
   injection hv' with hp1 _ hp3
   subst hp1 hp3
   obtain ⟨b, off, rfl, hcell⟩ := hc i hlt
   rw [← htm] at hcell
   have HQN : Hid (∀ n, RqAt w (wr.drewN n) #[.string x, .bool closed, .int .i64 a, .int .i64 fields, .int .i64 c, .int .i64 d, .int .i64 fold, .int .i64 2] u11 l) := fun n => HQ.out.call ⟨rfl, rfl, rfl, nR _, fun _ _ => rfl⟩
   have HN : Hid (∀ n, Calls Tryz.prog 47 #[.agg #[.string x, .bool closed, .int .i64 a, .int .i64 fields, .int .i64 c, .int .i64 d, .int .i64 fold, .int .i64 2], .int .i64 (at_ : Int), .string tm] (wr.drewN n) fun o w' => NextOk (wr.drewN n) w' at_ o (oneP ⟨a, fields, c, d, fold⟩ closed 2 tm (x.data.toList.drop at_)) ∧ Below (wr.drewN n).heap.size (wr.drewN n) w') := fun n => mnext_any x closed a fields c d fold 2 at_ tm (wr.drewN n) (Or.inr rfl) HF.out (mx_below' HM.out H0.out (HQN.out n).b) HX.out HAT.out
   rw [hdr, respsP] at hr
   have HDR := lH hdr
   have HLT := lH hlt
   clear hq hat hc hdr htm hml hi
   cases ho : oneP ⟨a, fields, c, d, fold⟩ closed 2 tm (x.data.toList.drop at_) with
   | tail k e =>
     rw [ho] at HN
     try simp only at hr
     rw [ho] at hr
     have HRR : Hid ((l.map (·.1), (k, at_, e)) = R) := hr
     clear hr ho hf hll
     have t1 := as_t1
     have t3 := as_t3
     go_upto_region 6 with fail
     refine wp_region_drew_tail 6 (by kernel_rfl) (by kernel_rfl) ?_
     simp only [List.take_succ_cons, List.take_zero, List.drop_succ_cons, List.drop_zero]
     go_big_quiet_step (fail)
     repeat go_big_quiet_step (fail)
     refine wpQuiet_nil ?_
     rintro _ ⟨nq, rfl⟩
     go_wp2_with (go_at_call 47; refine (HN.out _).mono ?_; rintro e1 w1 ⟨h1, hb⟩; have h2 : e1 = _ := h1; subst h2; clear h1; have HQ1 := lH ((HQN.out _).call hb); clear hb; clear y0 y1 y2 y3 y4 y5 y6 y7)
     have HQ2 := lH (HQ1.out.call (W1 := (w1.alloc (.cells #[.int .i64 k, .int .i64 (at_ : Int), .int .i64 e] 91))) ((Below.refl _ _).alloc (nR _) _))
     have HQ3 : Hid (∀ n, RqAt w ((w1.alloc (.cells #[.int .i64 k, .int .i64 (at_ : Int), .int .i64 e] 91)).drewN n) #[.string x, .bool closed, .int .i64 a, .int .i64 fields, .int .i64 c, .int .i64 d, .int .i64 fold, .int .i64 2] u11 l) := fun n => HQ2.out.call ⟨rfl, rfl, rfl, nR _, fun _ _ => rfl⟩
     refine wp_region_drew_tail 3 (by kernel_rfl) (by kernel_rfl) ?_
     simp only [List.take_succ_cons, List.take_zero, List.drop_succ_cons, List.drop_zero]
     repeat go_big_quiet_step (fail)
     refine wpQuiet_nil ?_
     rintro _ ⟨nq2, rfl⟩
     obtain ⟨z0, z1, z2⟩ := bc3 ((HQ3.out nq2).t) 0 1 2
     simp at z0 z1 z2
     obtain ⟨q0, q1, q2⟩ := bf3 ((HQ3.out nq2).t) 0 1 2
     go_wp2_with fail
     have hRR := HRR.out
     subst hRR
     obtain ⟨g1, g2, g3⟩ := (HQ3.out nq2).tail (.int .i64 k) (.int .i64 (at_ : Int)) (.int .i64 e)
     exact bodyPost_ret (results_tc Tryz.results26 _ _ _ _ _ rfl (run_loadVar_row _ _ _ _ _ _ _ (tail_set3 (HQ3.out nq2).t _ _ _) Tryz.underlying54 rfl (by kernel_rfl))) rfl ⟨_, l, rfl, rfl, g1, g2, g3⟩
   | whole M u =>
     rw [ho] at HN
     rw [ho] at hr
     obtain ⟨⟨Mm, Mt, Mk, Mn, Mr, Mf⟩, Mfk, Mfl, Mb, Ms, Mtr⟩ := M
     have t1 := as_w1
     have HLL := lH hll
     obtain ⟨u0, u1⟩ := oneP_used ho
     have HU := lH (And.intro u0 u1)
     have HRR := lH hr
     have HFF := lH hf
     clear hr ho hf hll u0 u1
     have hw9 : wrap64 ((i : Int) + 1) = ((i + 1 : Nat) : Int) := by have := HML.out; rw [IntWalk.wrap64_in _ ⟨by omega, by omega⟩]; simp
     by_cases h9 : 199 < Mn
     ·have hd9 : decide (Mn ≤ 199) = false := dF (by omega)
      have hd8 : decide (199 < Mn) = true := dT h9
      have hd7 : ¬ Mn ≤ 199 := by omega
      go_upto_region 6 with fail
      refine wp_region_drew_tail 6 (by kernel_rfl) (by kernel_rfl) ?_
      simp only [List.take_succ_cons, List.take_zero, List.drop_succ_cons, List.drop_zero]
      repeat go_big_quiet_step (fail)
      refine wpQuiet_nil ?_
      rintro _ ⟨nq, rfl⟩
      go_wp2_with (first | (go_at_call 47; refine (HN.out _).mono ?_; rintro e1 w1 ⟨⟨vf, vz, vt, h1, of1, oi1, ot1⟩, hb⟩; subst h1; obtain ⟨fp, fc, hfv, _⟩ := of1.flds; subst hfv; obtain ⟨zp, zc, hzv⟩ := oi1.shape; subst hzv; obtain ⟨tp, tc, htv, _⟩ := ot1.flds; subst htv; have HQ1 := lH ((HQN.out nq).call hb); have HY1 : Hid (MsgIn w1 (wr.drewN nq).heap.size (⟨⟨Mm, Mt, Mk, Mn, Mr, Mf⟩, Mfk, Mfl, Mb, Ms, Mtr⟩, ⟨_, _, _⟩)) := (show MsgIn w1 (wr.drewN nq).heap.size (⟨⟨Mm, Mt, Mk, Mn, Mr, Mf⟩, Mfk, Mfl, Mb, Ms, Mtr⟩, ⟨_, _, _⟩) from ⟨of1, oi1, ot1⟩); clear hb of1 oi1 ot1; clear y0 y1 y2 y3 y4 y5 y6 y7) | (at_builtin; refine wpList_push_msg rfl _ _ rfl rfl (HQ1.out.call ((Below.refl w1.heap.size w1).alloc (nR _) _)).o _ (HY1.out.call ((Below.refl w1.heap.size w1).alloc (nR _) _)) rfl (by simp) (by have := HLL.out; have := HAT.out; have := HX.out; omega) (HQ1.out.call ((Below.refl w1.heap.size w1).alloc (nR _) _)).b.size ?_; intro p4 c4 w4 ho4 hg4 hb4; have HQ4 := lH ((HQ1.out.call ((Below.refl w1.heap.size w1).alloc (nR _) _)).push _ ((HY1.out.call ((Below.refl w1.heap.size w1).alloc (nR _) _)).lower (HQN.out nq).b.size) ho4 hg4); have KW4 := lH ((HQ1.out.call ((Below.refl w1.heap.size w1).alloc (nR _) _)).apart hg4 (Blk.new w1 #[.string Mm, .string Mt, .int .i64 Mk, .int .i64 Mn, .string Mr, .slice fp Mf.length fc, .int .i64 Mfk, .int .i64 Mfl, .string (strL Mb), .slice zp Ms.length zc, .slice tp Mtr.length tc, .int .i64 ((at_ : Int) + (u : Int))] 89) (by decide)); clear ho4 hg4 hb4; obtain ⟨k0, k1, k2, k3, k4, k5, k6, k7, k8, k9, k10, k11⟩ := bc12 KW4.out 0 1 2 3 4 5 6 7 8 9 10 11; simp at k0 k1 k2 k3 k4 k5 k6 k7 k8 k9 k10 k11) | (go_at_call 50; refine (mbehind_whole _ _ _ _ _ _ _ _ _ _ _ _ _).mono ?_; rintro e5 w5 ⟨rfl, hb⟩; have HQ5 := lH (HQ4.out.call hb); have KW5 := lH (KW4.out.call hb); clear hb; clear k0 k1 k2 k3 k4 k5 k6 k7 k8 k9 k10 k11; have k3 := KW5.out.cell 3; simp at k3))
      go_roundw
      case rel =>
       have h1 := HU.out.1
       have h2 := HU.out.2
       have h3 := HFF.out
       have h4 := HLL.out
       have h5 := HAT.out
       have h7 := HLT.out
       rw [List.length_drop] at h2
       have h6 := Lib.size_eq x
       refine ⟨_, _, at_ + u, i + 1, f, rfl, by simp, (by first | rfl | rw [hw9]), by omega, by omega, by omega, by rw [List.length_append]; simp only [List.length_cons, List.length_nil]; omega, ?_, HQ5.out⟩
       have e9 : x.data.toList.drop (at_ + u) = (x.data.toList.drop at_).drop u := by rw [List.drop_drop]
       rw [List.map_append, e9]
       have := HRR.out
       try dsimp only at this
       rw [if_pos h9] at this
       exact this
      case measure =>
       have h1 := HU.out.1
       have h2 := HU.out.2
       have h6 := Lib.size_eq x
       rw [List.length_drop] at h2
       simp [intOf]
       omega
     ·have hd9 : decide (Mn ≤ 199) = true := dT (by omega)
      have hd8 : decide (199 < Mn) = false := dF h9
      have hd7 : Mn ≤ 199 := by omega
      go_upto_region 6 with fail
      refine wp_region_drew_tail 6 (by kernel_rfl) (by kernel_rfl) ?_
      simp only [List.take_succ_cons, List.take_zero, List.drop_succ_cons, List.drop_zero]
      repeat go_big_quiet_step (fail)
      refine wpQuiet_nil ?_
      rintro _ ⟨nq, rfl⟩
      go_wp2_with (first | (go_at_call 47; refine (HN.out _).mono ?_; rintro e1 w1 ⟨⟨vf, vz, vt, h1, of1, oi1, ot1⟩, hb⟩; subst h1; obtain ⟨fp, fc, hfv, _⟩ := of1.flds; subst hfv; obtain ⟨zp, zc, hzv⟩ := oi1.shape; subst hzv; obtain ⟨tp, tc, htv, _⟩ := ot1.flds; subst htv; have HQ1 := lH ((HQN.out nq).call hb); have HY1 : Hid (MsgIn w1 (wr.drewN nq).heap.size (⟨⟨Mm, Mt, Mk, Mn, Mr, Mf⟩, Mfk, Mfl, Mb, Ms, Mtr⟩, ⟨_, _, _⟩)) := (show MsgIn w1 (wr.drewN nq).heap.size (⟨⟨Mm, Mt, Mk, Mn, Mr, Mf⟩, Mfk, Mfl, Mb, Ms, Mtr⟩, ⟨_, _, _⟩) from ⟨of1, oi1, ot1⟩); clear hb of1 oi1 ot1; clear y0 y1 y2 y3 y4 y5 y6 y7) | (at_builtin; refine wpList_push_msg rfl _ _ rfl rfl (HQ1.out.call ((Below.refl w1.heap.size w1).alloc (nR _) _)).o _ (HY1.out.call ((Below.refl w1.heap.size w1).alloc (nR _) _)) rfl (by simp) (by have := HLL.out; have := HAT.out; have := HX.out; omega) (HQ1.out.call ((Below.refl w1.heap.size w1).alloc (nR _) _)).b.size ?_; intro p4 c4 w4 ho4 hg4 hb4; have HQ4 := lH ((HQ1.out.call ((Below.refl w1.heap.size w1).alloc (nR _) _)).push _ ((HY1.out.call ((Below.refl w1.heap.size w1).alloc (nR _) _)).lower (HQN.out nq).b.size) ho4 hg4); have KW4 := lH ((HQ1.out.call ((Below.refl w1.heap.size w1).alloc (nR _) _)).apart hg4 (Blk.new w1 #[.string Mm, .string Mt, .int .i64 Mk, .int .i64 Mn, .string Mr, .slice fp Mf.length fc, .int .i64 Mfk, .int .i64 Mfl, .string (strL Mb), .slice zp Ms.length zc, .slice tp Mtr.length tc, .int .i64 ((at_ : Int) + (u : Int))] 89) (by decide)); clear ho4 hg4 hb4; obtain ⟨k0, k1, k2, k3, k4, k5, k6, k7, k8, k9, k10, k11⟩ := bc12 KW4.out 0 1 2 3 4 5 6 7 8 9 10 11; simp at k0 k1 k2 k3 k4 k5 k6 k7 k8 k9 k10 k11) | (go_at_call 50; refine (mbehind_whole _ _ _ _ _ _ _ _ _ _ _ _ _).mono ?_; rintro e5 w5 ⟨rfl, hb⟩; have HQ5 := lH (HQ4.out.call hb); have KW5 := lH (KW4.out.call hb); clear hb; clear k0 k1 k2 k3 k4 k5 k6 k7 k8 k9 k10 k11; have k3 := KW5.out.cell 3; simp at k3))
      go_roundw
      case rel =>
       have h1 := HU.out.1
       have h2 := HU.out.2
       have h3 := HFF.out
       have h4 := HLL.out
       have h5 := HAT.out
       have h7 := HLT.out
       rw [List.length_drop] at h2
       have h6 := Lib.size_eq x
       refine ⟨_, _, at_ + u, i, f, rfl, by simp, (by first | rfl | rw [hw9]), by omega, by omega, by omega, by rw [List.length_append]; simp only [List.length_cons, List.length_nil]; omega, ?_, HQ5.out⟩
       have e9 : x.data.toList.drop (at_ + u) = (x.data.toList.drop at_).drop u := by rw [List.drop_drop]
       rw [List.map_append, e9, HDR.out]
       have := HRR.out
       try dsimp only at this
       rw [if_neg (show ¬ 199 < Mn by omega)] at this
       exact this
      case measure =>
       have h1 := HU.out.1
       have h2 := HU.out.2
       have h6 := Lib.size_eq x
       rw [List.length_drop] at h2
       simp [intOf]
       omega
  ·have hd1 : decide ((i : Int) < (ms.length : Int)) = false := dF (by omega)
   have hd2 : decide (i < ms.length) = false := dF hlt
   obtain ⟨z0, z1, z2⟩ := bc3 HQ.out.t 0 1 2
   simp at z0 z1 z2
   obtain ⟨q0, q1, q2⟩ := bf3 HQ.out.t 0 1 2
   have hnil : ms.drop i = [] := List.drop_of_length_le (by omega)
   rw [hnil, respsP] at hr
   have hxl := Lib.size_eq x
   clear y0 y1 y2 y3 y4 y5 y6 y7
   by_cases hend : at_ < x.size
   ·have he1 : decide (at_ < x.size) = true := dT hend
    have he2 : decide ((at_ : Int) < (x.size : Int)) = true := dT (by omega)
    have hne : x.data.toList.drop at_ ≠ [] := by
     intro e
     have := congrArg List.length e
     simp at this
     omega
    simp only [if_pos hne] at hr
    have HRR := lH hr
    clear hr hq hne hxl hnil hi hf hll
    go_wp2_with fail
    have hRR := HRR.out
    subst hRR
    obtain ⟨g1, g2, g3⟩ := HQ.out.tail (.int .i64 3) (.int .i64 (at_ : Int)) (.int .i64 0)
    exact bodyPost_ret (results_tc Tryz.results26 _ _ _ _ _ rfl (run_loadVar_row _ _ _ _ _ _ _ (tail_set3 HQ.out.t _ _ _) Tryz.underlying54 rfl (by kernel_rfl))) rfl ⟨_, l, rfl, rfl, g1, g2, g3⟩
   ·have he1 : decide (at_ < x.size) = false := dF hend
    have he2 : decide ((at_ : Int) < (x.size : Int)) = false := dF (by omega)
    have hne : x.data.toList.drop at_ = [] := List.drop_of_length_le (by omega)
    simp only [if_neg (show ¬ (x.data.toList.drop at_ ≠ []) from fun h => h hne)] at hr
    have HRR := lH hr
    clear hr hq hne hxl hnil hi hf hll
    go_wp2_with fail
    have hRR := HRR.out
    subst hRR
    obtain ⟨g1, g2, g3⟩ := HQ.out.tail (.int .i64 0) (.int .i64 (at_ : Int)) (.int .i64 0)
    exact bodyPost_ret (results_tc Tryz.results26 _ _ _ _ _ rfl (run_loadVar_row _ _ _ _ _ _ _ (tail_set3 HQ.out.t _ _ _) Tryz.underlying54 rfl (by kernel_rfl))) rfl ⟨_, l, rfl, rfl, g1, g2, g3⟩
end Go.Proofs.YtaojfiegnebbdaaGreatDoor
-- MsW
namespace Go.Proofs.YtaojfiegnebbdaaGreatDoor
open Go.RowKit
def livX : List UInt8 := [71, 69, 84, 32, 47, 32, 72, 84, 84, 80, 47, 49, 46, 49, 13, 10, 72, 111, 115, 116, 58, 32, 97, 13, 10, 13, 10, 71]
def livY : List UInt8 := [72, 84, 84, 80, 47, 49, 46, 49, 32, 50, 48, 48, 32, 79, 75, 13, 10, 67, 111, 110, 116, 101, 110, 116, 45, 76, 101, 110, 103, 116, 104, 58, 32, 49, 13, 10, 13, 10, 97, 98, 99]
def wideL : Lm := ⟨65536, 1000, 100, 0, 0⟩
def livA : List MsgP × (Int × Nat × Int) := reqsP wideL false 29 livX 0 []
def livB : List MsgP × (Int × Nat × Int) := respsP wideL true 42 [⟨#[71, 69, 84]⟩] livY 0 []
theorem livA_t : livA.2 = (1, 27, 0) := by kernel_rfl
theorem livB_t : livB.2 = (3, 39, 0) := by kernel_rfl
theorem livA_n : livA.1.map (·.hd.m) = [⟨#[71, 69, 84]⟩] := by kernel_rfl
theorem livB_n : livB.1.map (·.body) = [[97]] := by kernel_rfl
theorem one_map {α β γ : Type} {l : List α} {r : List β} {f : α → β} {g : β → γ} {x : γ} (h : l.map f = r) (h2 : r.map g = [x]) : ∃ q, l = [q] ∧ g (f q) = x := by
 subst h
 rw [List.map_map] at h2
 cases l with
 | nil => cases h2
 | cons q t =>
   cases t with
   | nil => exact ⟨q, rfl, by simpa using h2⟩
   | cons q2 t => simp at h2
theorem liv_req {w : World} {mx : Int} (hm : w.cell? ⟨0, 0, none⟩ = some (.int .i64 mx)) :
 Calls Tryz.prog 22 #[.string ⟨#[71, 69, 84, 32, 47, 32, 72, 84, 84, 80, 47, 49, 46, 49, 13, 10, 72, 111, 115, 116, 58, 32, 97, 13, 10, 13, 10, 71]⟩, .bool false, .agg #[.int .i64 65536, .int .i64 1000, .int .i64 100, .int .i64 0, .int .i64 0]] w fun e w' => ∃ b off c, e = .returned (.tuple #[.slice (some ⟨b, off, none⟩) 1 c, .agg #[.int .i64 1, .int .i64 27, .int .i64 0]]) ∧ w'.cell? ⟨b, off, none⟩ = some (.string ⟨#[71, 69, 84]⟩) ∧ Below w.heap.size w w' := by
 have h := mreqs_any ⟨#[71, 69, 84, 32, 47, 32, 72, 84, 84, 80, 47, 49, 46, 49, 13, 10, 72, 111, 115, 116, 58, 32, 97, 13, 10, 13, 10, 71]⟩ false 65536 1000 100 0 0 w (by decide) hm (by decide) (R := livA) rfl
 refine h.mono ?_
 rintro e w' ⟨v, l, h1, h2, h3, h4, h5⟩
 obtain ⟨q, rfl, hq⟩ := one_map h2 livA_n
 obtain ⟨p, c, rfl, hc, _⟩ := h3.msgs h4
 obtain ⟨b, off, rfl, h6⟩ := hc 0 (by simp)
 have h7 := h6 0 (by decide)
 refine ⟨b, off, c, ?_, ?_, h5⟩
 ·rw [h1, show livA.2.1 = 1 from congrArg (·.1) livA_t, show livA.2.2.1 = 27 from congrArg (·.2.1) livA_t, show livA.2.2.2 = 0 from congrArg (·.2.2) livA_t]
  rfl
 ·have h8 : (msgL q)[0]? = some (.string q.1.hd.m) := rfl
  have h9 := h7.trans h8
  rw [hq] at h9
  simpa using h9
theorem liv_resp {w : World} {mx : Int} (hm : w.cell? ⟨0, 0, none⟩ = some (.int .i64 mx)) (vm : Value) (hv : Strs w vm [⟨#[71, 69, 84]⟩]) :
 Calls Tryz.prog 26 #[.string ⟨#[72, 84, 84, 80, 47, 49, 46, 49, 32, 50, 48, 48, 32, 79, 75, 13, 10, 67, 111, 110, 116, 101, 110, 116, 45, 76, 101, 110, 103, 116, 104, 58, 32, 49, 13, 10, 13, 10, 97, 98, 99]⟩, .bool true, vm, .agg #[.int .i64 65536, .int .i64 1000, .int .i64 100, .int .i64 0, .int .i64 0]] w fun e w' => ∃ b off c, e = .returned (.tuple #[.slice (some ⟨b, off, none⟩) 1 c, .agg #[.int .i64 3, .int .i64 39, .int .i64 0]]) ∧ w'.cell? ⟨b, off + 8, none⟩ = some (.string ⟨#[97]⟩) ∧ Below w.heap.size w w' := by
 have h := mresps_any ⟨#[72, 84, 84, 80, 47, 49, 46, 49, 32, 50, 48, 48, 32, 79, 75, 13, 10, 67, 111, 110, 116, 101, 110, 116, 45, 76, 101, 110, 103, 116, 104, 58, 32, 49, 13, 10, 13, 10, 97, 98, 99]⟩ true vm [⟨#[71, 69, 84]⟩] 65536 1000 100 0 0 w hv (by decide) (by decide) hm (by decide) (R := livB) rfl
 refine h.mono ?_
 rintro e w' ⟨v, l, h1, h2, h3, h4, h5⟩
 obtain ⟨q, rfl, hq⟩ := one_map h2 livB_n
 obtain ⟨p, c, rfl, hc, _⟩ := h3.msgs h4
 obtain ⟨b, off, rfl, h6⟩ := hc 0 (by simp)
 have h7 := h6 8 (by decide)
 refine ⟨b, off, c, ?_, ?_, h5⟩
 ·rw [h1, show livB.2.1 = 3 from congrArg (·.1) livB_t, show livB.2.2.1 = 39 from congrArg (·.2.1) livB_t, show livB.2.2.2 = 0 from congrArg (·.2.2) livB_t]
  rfl
 ·have h8 : (msgL q)[8]? = some (.string (strL q.1.body)) := rfl
  have h9 := h7.trans h8
  rw [hq] at h9
  rw [Nat.zero_mul, Nat.add_zero] at h9
  exact h9
theorem mwide_any (w : World) : Calls Tryz.prog 23 #[] w fun e w' => e = .returned (.agg #[.int .i64 65536, .int .i64 1000, .int .i64 100, .int .i64 0, .int .i64 0]) ∧ Below w.heap.size w w' := by
 go_enter Tryz.func23, Tryz.ntmps23
 go_wp2_with fail
 exact bodyPost_ret (results_cell_row Tryz.results23 _ _ _ _ _ _ _ rfl (heap_alloc_new _ _) Tryz.underlying42 rfl (by kernel_rfl)) rfl ⟨rfl, (Below.refl _ _).alloc (nR _) _⟩
theorem mlives_any {w : World} {mx : Int} (hmx : w.cell? ⟨0, 0, none⟩ = some (.int .i64 mx)) : Calls Tryz.prog 18 #[] w fun e w' => e = .returned (.bool true) ∧ Below w.heap.size w w' := by
 have h0 : 0 < w.heap.size := World.block_lt_of_cell? w _ hmx
 have HMX := lH hmx
 have H0 := lH h0
 clear hmx h0
 go_enter Tryz.func18, Tryz.ntmps18
 go_wp2_with fail
 refine (mwide_any _).mono ?_
 rintro e1 w1 ⟨rfl, hb1⟩
 have HB1 := lH hb1
 clear hb1
 go_wp2_with fail
 refine (liv_req (mx_below' HMX.out H0.out HB1.out)).mono ?_
 rintro e2 w2 ⟨b2, o2, c2, rfl, k2, hb2⟩
 have HB2 := lH (HB1.out.trans (hb2.mono HB1.out.size))
 clear hb2
 go_wp2_with fail
 refine (mwide_any _).mono ?_
 rintro e3 w3 ⟨rfl, hb3⟩
 have HT3 := lH (((Blk.new w2 #[.int .i64 1, .int .i64 27, .int .i64 0] 54).alloc (.cells #[.string ⟨#[71, 69, 84]⟩] 9)).call hb3)
 have HG3 := lH ((Blk.new' (w := w2.alloc (.cells #[.int .i64 1, .int .i64 27, .int .i64 0] 54)) (cs := #[.string ⟨#[71, 69, 84]⟩]) (t := 9) (n := w2.heap.size + 1) (by simp)).call hb3)
 have HB3 := lH ((HB2.out.trans (bal2 w2 (.cells #[.int .i64 1, .int .i64 27, .int .i64 0] 54) (.cells #[.string ⟨#[71, 69, 84]⟩] 9) |>.mono HB2.out.size)).trans (hb3.mono (by have := HB2.out.size; simp; omega)))
 have k3 : w3.cell? ⟨b2, o2, none⟩ = some (.string ⟨#[71, 69, 84]⟩) := ((bcell ((bal2 w2 _ _).trans (hb3.mono (by simp; omega)))) b2 _ (World.block_lt_of_cell? _ _ k2)).trans k2
 clear hb3 k2
 go_wp2_with fail
 refine (liv_resp (mx_below' HMX.out H0.out HB3.out) _ ⟨_, _, rfl, fun i hi => ⟨w2.heap.size + 1, 0, rfl, ?_⟩⟩).mono ?_
 ·have : i = 0 := by simpa using hi
  subst this
  exact HG3.out.cell 0
 rintro e4 w4 ⟨b4, o4, c4, rfl, k4, hb4⟩
 have HT4 := lH ((HT3.out.call hb4).alloc (.cells #[.int .i64 3, .int .i64 39, .int .i64 0] 54))
 have HU4 := lH (Blk.new w4 #[.int .i64 3, .int .i64 39, .int .i64 0] 54)
 have HB4 := lH ((HB3.out.trans (hb4.mono HB3.out.size)).alloc (nT HB3.out.size hb4.size) (.cells #[.int .i64 3, .int .i64 39, .int .i64 0] 54))
 have k5 : (w4.alloc (.cells #[.int .i64 3, .int .i64 39, .int .i64 0] 54)).cell? ⟨b2, o2, none⟩ = some (.string ⟨#[71, 69, 84]⟩) := ((bcell (hb4.alloc hb4.size _)) b2 _ (World.block_lt_of_cell? _ _ k3)).trans k3
 have k6 : (w4.alloc (.cells #[.int .i64 3, .int .i64 39, .int .i64 0] 54)).cell? ⟨b4, o4 + 8, none⟩ = some (.string ⟨#[97]⟩) := ((bcell ((Below.refl w4.heap.size w4).alloc (nR _) _)) b4 _ (World.block_lt_of_cell? _ _ k4)).trans k4
 clear hb4 k3 k4
 have t0 := HT4.out.cell 0; have t1 := HT4.out.cell 1; have t2 := HT4.out.cell 2
 have u0 := HU4.out.cell 0; have u1 := HU4.out.cell 1; have u2 := HU4.out.cell 2
 simp at t0 t1 t2 u0 u1 u2
 go_wp2_with fail
 go_ret
 exact ⟨rfl, HB4.out⟩
end Go.Proofs.YtaojfiegnebbdaaGreatDoor
/- Texts packed for one claim, 44 of 45: RefWhole. -/
import Derived.Test.YtcpjkemjpgggcaaGreatDoorRefusalWholeQ32
import Derived.Test.YtcpjkemjpgggcaaGreatDoorRefusalWholeQ38
import Derived.Test.YtcpjkemjpgggcaaGreatDoorRefusalWholeQ43
set_option linter.unusedSimpArgs false
set_option linter.unusedVariables false
-- RefWhole
namespace Go.Proofs.YtcpjkemjpgggcaaGreatDoor
open Go.RowKit Civ
theorem fdsOk_hd {T : ByteArray} (h : DateT T) : FdsOk (hdL T) := by
  have h1 := hdL_lenI T
  have h2 := (hdL_right h).2
  refine ⟨by omega, fun g m => by have := (h2 g m).1; omega, fun g m => by have := (h2 g m).2; omega, ?_⟩
  have e : allB (hdL T) teB = [] := by rw [hdL_all T (by decide +kernel)]; decide +kernel
  rw [e]
  decide
theorem con_hd (T : ByteArray) : allB (hdL T) conB = [closeB] := by rw [hdL_all T (by decide +kernel)]; decide +kernel
theorem wordsP_hd (T : ByteArray) : wordsP (hdL T) = some [closeB] := by
  unfold wordsP
  rw [con_hd]
  have e : splitP (joinL [closeB]) = some [closeB] := by decide +kernel
  rw [e]
  decide +kernel
theorem pers_hd (T : ByteArray) (k : Int) : persP k (hdL T) = false := by
  unfold persP
  rw [wordsP_hd]
  have e : hasB [closeB] closeB = true := by decide +kernel
  dsimp only
  rw [e]
  rfl
theorem cont_right (k : Int) : rightP ⟨#[]⟩ ⟨#[]⟩ (verN k) 100 ⟨#[67, 111, 110, 116, 105, 110, 117, 101]⟩ [] = true := by
  have h : verN k = 0 ∨ verN k = 1 := by unfold verN; split <;> simp
  rcases h with h | h <;> rw [h] <;> decide +kernel
set_option maxRecDepth 100000 in
set_option maxHeartbeats 4000000 in
theorem refWhole_any (side e st mi no : Int) (h1 : -9223372036854775808 ≤ mi) (h2 : mi ≤ 9223372036854775807) (h3 : -9223372036854775808 ≤ no) (h4 : no ≤ 9223372036854775807) (w : World) :
    Calls Tryz.prog 6 #[.int .i64 side, .int .i64 e, .agg #[.int .i64 st, .int .i64 mi, .int .i64 no]] w fun x w' => x = .returned (.bool true) ∧ Below w.heap.size w w' := by
  obtain ⟨T, hT, hD⟩ := printsI_any no h3 h4
  have hst := stat_reason (stat_in side e)
  have hrr := ref_right hD side e mi
  have HS := Lib.hid (fun W => refstat_any side e W)
  obtain ⟨s, hs⟩ : ∃ s, s = statB side e := ⟨_, rfl⟩
  rw [← hs] at hst hrr HS
  obtain ⟨s1, s2, rz, re, rv⟩ := hst
  have HH := Lib.hid (fun W => headI_any s mi no h1 h2 hT W)
  obtain ⟨hR1, hR2⟩ := hdL_right hD
  have hl := hdL_lenI T
  have hfr := resp_ref T (verN mi) s1 s2
  have hps := pers_hd T (verN mi)
  obtain ⟨R, hR⟩ : ∃ R, R = reasonS s := ⟨_, rfl⟩
  rw [← hR] at HH rz re rv hrr
  have HRR := Lib.hid (fun (W : World) (f : Value) (hf : Flds W f (hdL T)) => rright_any ⟨#[]⟩ ⟨#[]⟩ R (verN mi) s f (hdL T) (by decide) (by decide) (by omega) W hf (by omega) hR2)
  have HFR := Lib.hid (fun (W : World) (f : Value) (hf : Flds W f (hdL T)) => response_any ⟨#[]⟩ ⟨#[]⟩ R (verN mi) s f (hdL T) ⟨#[71, 69, 84]⟩ W hf (fdsOk_hd hD))
  have HPS := Lib.hid (fun (W : World) (f : Value) (hf : Flds W f (hdL T)) => persists_any (verN mi) (hdL T) f W hf (by omega) (fun g hg => by have := (hR2 g hg).1; omega) (fun g hg => by have := (hR2 g hg).2; omega) (by rw [con_hd]; decide))
  have HC := Lib.hid (fun W => continue_any mi h1 h2 W)
  have HRC := Lib.hid (fun (W : World) => hright_any ⟨#[]⟩ ⟨#[]⟩ ⟨#[67, 111, 110, 116, 105, 110, 117, 101]⟩ (verN mi) 100 (.slice none 0 0) [] (by decide) (by decide) (by decide) W (Flds.nil _ _ _) (by decide) (fun g hg => by cases hg))
  rw [hrr] at HRR
  rw [hfr] at HFR
  rw [hps] at HPS
  rw [cont_right] at HRC
  unfold contV at HC
  have HL := Lib.hid (fun W => lives33I W)
  obtain ⟨V, hV⟩ : ∃ V, V = verN mi := ⟨_, rfl⟩
  obtain ⟨L, hLL⟩ : ∃ L, L = hdL T := ⟨_, rfl⟩
  rw [← hLL] at HH HRR HFR HPS
  rw [← hV] at HH HRR HFR HPS HC HRC
  have e1 : decide (s < 400) = false := decide_eq_false (by omega)
  have e2 : decide (599 < s) = false := decide_eq_false (by omega)
  have KC := Lib.hid (Blk.new w #[.int .i64 st, .int .i64 mi, .int .i64 no] 57)
  have B := Lib.hid ((Below.refl w.heap.size w).alloc (Nat.le_refl _) (.cells #[.int .i64 st, .int .i64 mi, .int .i64 no] 57))
  clear hT hD hrr hs s1 s2 rz rv hR1 hR2 hl hfr hps hR hV hLL h1 h2 h3 h4
  go_enter Tryz.func6, Tryz.ntmps6
  go_wp2_with fail
  refine (HS.out _).mono ?_
  rintro x1 w1 ⟨rfl, hb⟩
  replace B := Lib.hid (B.out.trans (hb.mono B.out.size))
  replace KC := Lib.hid (KC.out.call hb)
  clear hb
  have k1 := KC.out.cell 1
  have k2 := KC.out.cell 2
  simp at k1 k2
  go_wp2_with fail
  clear k1 k2
  refine (HH.out _).mono ?_
  rintro x2 w2 ⟨f, rfl, hf, hb⟩
  obtain ⟨p, c, rfl, hcc⟩ := id hf
  clear hcc
  have B2 := Lib.hid (B.out.trans (hb.mono B.out.size))
  have KC2 := Lib.hid ((KC.out.call hb).alloc (.cells #[.string ⟨#[]⟩, .string ⟨#[]⟩, .int .i64 V, .int .i64 s, .string R, .slice p L.length c] 24))
  have KH := Lib.hid (Blk.new w2 #[.string ⟨#[]⟩, .string ⟨#[]⟩, .int .i64 V, .int .i64 s, .string R, .slice p L.length c] 24)
  have BA := Lib.hid ((Below.refl w2.heap.size w2).alloc (Nat.le_refl _) (.cells #[.string ⟨#[]⟩, .string ⟨#[]⟩, .int .i64 V, .int .i64 s, .string R, .slice p L.length c] 24))
  have F := Lib.hid (hf.below BA.out)
  replace B2 := Lib.hid (B2.out.alloc B2.out.size (.cells #[.string ⟨#[]⟩, .string ⟨#[]⟩, .int .i64 V, .int .i64 s, .string R, .slice p L.length c] 24))
  clear hf hb BA
  go_wp2_with fail
  refine (HRR.out _ _ F.out).mono ?_
  rintro x3 w3 ⟨rfl, hb⟩
  replace B2 := Lib.hid (B2.out.trans (hb.mono B2.out.size))
  replace KC2 := Lib.hid (KC2.out.call hb)
  replace KH := Lib.hid (KH.out.call hb)
  replace F := Lib.hid (F.out.below hb)
  clear hb
  have q0 := KH.out.cell 0
  have q1 := KH.out.cell 1
  have q2 := KH.out.cell 2
  have q3 := KH.out.cell 3
  have q4 := KH.out.cell 4
  have q5 := KH.out.cell 5
  simp at q0 q1 q2 q3 q4 q5
  go_wp2_with fail
  clear q0 q1 q2 q3 q4 q5
  refine (HFR.out _ _ F.out).mono ?_
  rintro x4 w4 ⟨rfl, hb⟩
  replace B2 := Lib.hid ((B2.out.trans (hb.mono B2.out.size)).alloc (Nat.le_trans B2.out.size hb.size) (.cells #[.int .i64 1, .int .i64 0] 28))
  replace KC2 := Lib.hid ((KC2.out.call hb).alloc (.cells #[.int .i64 1, .int .i64 0] 28))
  replace KH := Lib.hid ((KH.out.call hb).alloc (.cells #[.int .i64 1, .int .i64 0] 28))
  have BA := Lib.hid ((Below.refl w4.heap.size w4).alloc (Nat.le_refl _) (.cells #[.int .i64 1, .int .i64 0] 28))
  replace F := Lib.hid ((F.out.below hb).below BA.out)
  clear hb BA
  have q2 := KH.out.cell 2
  have q5 := KH.out.cell 5
  simp at q2 q5
  go_wp2_with fail
  clear q2 q5
  refine (HPS.out _ _ F.out).mono ?_
  rintro x5 w5 ⟨rfl, hb⟩
  replace B2 := Lib.hid (B2.out.trans (hb.mono B2.out.size))
  replace KC2 := Lib.hid (KC2.out.call hb)
  clear hb
  have k1 := KC2.out.cell 1
  simp at k1
  go_wp2_with fail
  refine (HC.out _).mono ?_
  rintro x6 w6 ⟨rfl, hb⟩
  replace B2 := Lib.hid (B2.out.trans (hb.mono B2.out.size))
  clear hb k1
  go_wp2_with fail
  refine (HRC.out _).mono ?_
  rintro x7 w7 ⟨rfl, hb⟩
  replace B2 := Lib.hid (B2.out.trans (hb.mono B2.out.size))
  clear hb
  go_wp2_with fail
  refine (HL.out _).mono ?_
  rintro x8 w8 ⟨rfl, hb⟩
  replace B2 := Lib.hid (B2.out.trans (hb.mono B2.out.size))
  clear hb
  go_wp2_with fail
  go_ret
  exact ⟨rfl, B2.out⟩
end Go.Proofs.YtcpjkemjpgggcaaGreatDoor

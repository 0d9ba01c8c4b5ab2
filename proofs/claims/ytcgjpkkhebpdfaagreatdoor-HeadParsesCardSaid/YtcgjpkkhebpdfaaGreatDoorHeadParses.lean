/- abutmentlaw22.HeadParses, for every kind, all limits and all lines. -/
import Derived.Test.YtcgjpkkhebpdfaaGreatDoorHdB
set_option linter.unusedSimpArgs false
set_option linter.unusedVariables false
namespace Go.Proofs.YtcgjpkkhebpdfaaGreatDoor
open Go.RowKit
theorem few22_ok {l : List ByteArray} (h : few22 l = true) : l.length ≤ 60 ∧ tot l ≤ 18000 := by
  unfold few22 at h
  rw [Bool.and_eq_true, decide_eq_true_eq, List.all_eq_true] at h
  refine ⟨h.1, ?_⟩
  have : ∀ l : List ByteArray, (∀ s ∈ l, s.size ≤ 300) → tot l ≤ 300 * l.length := by
    intro l
    induction l with
    | nil => intro _; exact Nat.le_refl _
    | cons s r ih =>
      intro hs
      have h1 := ih (fun x hx => hs x (List.mem_cons_of_mem _ hx))
      have h2 := hs s List.mem_cons_self
      rw [tot_cons, List.length_cons]
      omega
  have h2 := this l (fun s hs => of_decide_eq_true (h.2 s hs))
  omega
theorem hsame_self (h : Hd) (f f' : Value) (w : World) (hf : Flds w f h.fs) (hf' : Flds w f' h.fs) (hl : h.fs.length ≤ 1000000) : Calls Tryz.prog 11 #[.agg (h.row f), .agg (h.row f')] w fun e w' => e = .returned (.bool true) ∧ Below w.heap.size w w' := by
  have := hsame_any h.m h.t h.r h.m h.t h.r h.k h.n h.k h.n f f' h.fs h.fs (p1 := true) (p2 := true) (p3 := true) (p4 := true) (p5 := true) (by simp) (by simp) (by simp) (by simp) (by simp) w hf hf' (by omega) (by omega)
  unfold Hd.row
  simpa using this
set_option maxRecDepth 100000 in
set_option maxHeartbeats 4000000 in
theorem headParses_any (kind a fields c d fold : Int) (hfi : -9223372036854775808 ≤ fields ∧ fields ≤ 9223372036854775807) (v : Value) (hcap : CapOk v) (l : List ByteArray) (w : World) {mx : Int} (hm : w.cell? ⟨0, 0, none⟩ = some (.int .i64 mx)) (hS : Strs w v l) (hl : l.length ≤ 9223372036854775807) :
    Calls Tryz.prog 3 #[.int .i64 kind, .agg #[.int .i64 a, .int .i64 fields, .int .i64 c, .int .i64 d, .int .i64 fold], v] w fun e w' => e = .returned (.bool true) ∧ Below w.heap.size w w' := by
  have HM := Lib.hid hm
  have HLV := Lib.hid (fun (W : World) (hW : W.cell? ⟨0, 0, none⟩ = some (.int .i64 mx)) => hlives_any W hW)
  have HFW := Lib.hid (fun (W : World) (hW : Strs W v l) => few22_any v l W hW hl)
  have hb0 : Below w.heap.size w (w.alloc (.cells #[.int .i64 a, .int .i64 fields, .int .i64 c, .int .i64 d, .int .i64 fold] 23)) := (Below.refl _ _).alloc (Nat.le_refl _) _
  have HS0 := Lib.hid (hS.below hb0)
  have HM0 := Lib.hid (mx_below hm hb0)
  have KL := Lib.hid (Blk.new w #[.int .i64 a, .int .i64 fields, .int .i64 c, .int .i64 d, .int .i64 fold] 23)
  have HB0 := Lib.hid hb0
  cases hF : few22 l with
  | false =>
    rw [hF] at HFW
    clear hm hfi hcap hS hl hb0 hF
    go_enter Tryz.func3, Tryz.ntmps3
    go_wp2_with (first | (go_at_call 7; refine (HFW.out _ HS0.out).mono ?_; rintro e1 w1 ⟨rfl, h1⟩; subst h1) | (go_at_call 8; refine (HLV.out _ HM0.out).mono ?_; rintro e2 w2 ⟨rfl, hb2⟩; have HB2 := Lib.hid (HB0.out.trans (hb2.mono HB0.out.size)); clear hb2))
    go_ret
    exact ⟨rfl, HB2.out⟩
  | true =>
    rw [hF] at HFW
    obtain ⟨h60, htt⟩ := few22_ok hF
    have hql := headP_len kind fields fold l
    have HPA := Lib.hid (fun (W : World) (hW : W.cell? ⟨0, 0, none⟩ = some (.int .i64 mx)) (hs : Strs W v l) => hparse_any kind a fields c d fold hfi v hcap l W hW hs (by omega) (by omega))
    have HRP := Lib.hid (fun (W : World) (hs : Strs W v l) => rhparse_any kind a fields c d fold v hcap l W hs (by omega) (by omega))
    obtain ⟨Q, hQ⟩ : ∃ Q, Q = headP kind fields fold l := ⟨_, rfl⟩
    rw [← hQ] at HPA HRP hql
    have HSM := Lib.hid (fun (W : World) (f f' : Value) (h1 : Flds W f Q.1.fs) (h2 : Flds W f' Q.1.fs) => hsame_self Q.1 f f' W h1 h2 (by omega))
    obtain ⟨⟨qm, qt, qk, qn, qr, qf⟩, qe⟩ := Q
    simp only [Hd.row] at HPA HRP HSM
    clear hm hfi hcap hS hl hb0 hF h60 htt hql hQ
    go_enter Tryz.func3, Tryz.ntmps3
    go_wp2_with (first
      | (go_at_call 7; refine (HFW.out _ HS0.out).mono ?_; rintro e1 w1 ⟨rfl, h1⟩; subst h1)
      | (go_at_call 9; refine (HPA.out _ HM0.out HS0.out).mono ?_; rintro e2 w2 ⟨f2, rfl, ho2, hb2⟩; obtain ⟨p2, c2, rfl⟩ := own_slice ho2; simp only at ho2 ⊢; have hbn := (Below.refl w2.heap.size w2).alloc (Nat.le_refl _) (.cells #[.string qm, .string qt, .int .i64 qk, .int .i64 qn, .string qr, .slice p2 qf.length c2] 29); have KL2 := Lib.hid ((KL.out.call hb2).call hbn); have HB2 := Lib.hid ((HB0.out.trans (hb2.mono HB0.out.size)).trans (hbn.mono (Nat.le_trans HB0.out.size hb2.size))); have HS2 := Lib.hid ((HS0.out.below hb2).below hbn); have HF2 := Lib.hid (ho2.flds.below hbn); have HM2 := Lib.hid (mx_below HM.out HB2.out); have q0 := KL2.out.cell 0; have q1 := KL2.out.cell 1; have q2 := KL2.out.cell 2; have q3 := KL2.out.cell 3; have q4 := KL2.out.cell 4; simp at q0 q1 q2 q3 q4; clear hb2 ho2 hbn)
      | (go_at_call 10; refine (HRP.out _ HS2.out).mono ?_; rintro e3 w3 ⟨f3, rfl, ho3, hb3⟩; obtain ⟨p3, c3, rfl⟩ := own_slice ho3; simp only at ho3 ⊢; clear q0 q1 q2 q3 q4; have hbn := (Below.refl w3.heap.size w3).alloc (Nat.le_refl _) (.cells #[.string qm, .string qt, .int .i64 qk, .int .i64 qn, .string qr, .slice p3 qf.length c3] 29); have KA := Lib.hid (((Blk.new w2 #[.string qm, .string qt, .int .i64 qk, .int .i64 qn, .string qr, .slice p2 qf.length c2] 29).call hb3).call hbn); have KB := Lib.hid (Blk.new w3 #[.string qm, .string qt, .int .i64 qk, .int .i64 qn, .string qr, .slice p3 qf.length c3] 29); have HB3 := Lib.hid ((HB2.out.trans (hb3.mono HB2.out.size)).trans (hbn.mono (Nat.le_trans HB2.out.size hb3.size))); have HF23 := Lib.hid ((HF2.out.below hb3).below hbn); have HF3 := Lib.hid (ho3.flds.below hbn); have x0 := KA.out.cell 0; have x1 := KA.out.cell 1; have x2 := KA.out.cell 2; have x3 := KA.out.cell 3; have x4 := KA.out.cell 4; have x5 := KA.out.cell 5; simp at x0 x1 x2 x3 x4 x5; have y0 := KB.out.cell 0; have y1 := KB.out.cell 1; have y2 := KB.out.cell 2; have y3 := KB.out.cell 3; have y4 := KB.out.cell 4; have y5 := KB.out.cell 5; simp at y0 y1 y2 y3 y4 y5; clear hb3 ho3 hbn)
      | (go_at_call 11; refine (HSM.out _ _ _ HF23.out HF3.out).mono ?_; rintro e4 w4 ⟨rfl, hb4⟩; have HB4 := Lib.hid (HB3.out.trans (hb4.mono HB3.out.size)); have HM4 := Lib.hid (mx_below HM.out HB4.out); clear hb4)
      | (go_at_call 8; refine (HLV.out _ HM4.out).mono ?_; rintro e5 w5 ⟨rfl, hb5⟩; have HB5 := Lib.hid (HB4.out.trans (hb5.mono HB4.out.size)); clear hb5))
    go_ret
    exact ⟨by simp, HB5.out⟩
end Go.Proofs.YtcgjpkkhebpdfaaGreatDoor

/- abutmentlaw22.HeadFeeds, for every kind, all limits and all parts. -/
import Derived.Test.YtmoofcmmpemdcaaGreatDoorHeadParses
import Derived.Test.YtmoofcmmpemdcaaGreatDoorHdC
import Derived.Test.YtmoofcmmpemdcaaGreatDoorHdD
set_option linter.unusedSimpArgs false
set_option linter.unusedVariables false
namespace Go.Proofs.YtmoofcmmpemdcaaGreatDoor
open Go.RowKit
theorem headP_err (kind fields fold : Int) (l : List ByteArray) (h : (headP kind fields fold l).2 ≠ 0) : (headP kind fields fold l).1 = hd0 := by
  unfold headP at h ⊢
  by_cases h1 : kind ≠ 1 ∧ kind ≠ 2
  · rw [if_pos h1]
  rw [if_neg h1] at h ⊢
  cases l with
  | nil => rfl
  | cons s rest =>
    revert h
    show (if (firstP kind s).2 ≠ 0 then (hd0, (firstP kind s).2) else if fields < (rest.length : Int) then (hd0, 4) else if (allF fold rest).2 ≠ 0 then (hd0, (allF fold rest).2) else ({ (firstP kind s).1 with fs := (allF fold rest).1 }, 0)).2 ≠ 0 → (if (firstP kind s).2 ≠ 0 then (hd0, (firstP kind s).2) else if fields < (rest.length : Int) then (hd0, 4) else if (allF fold rest).2 ≠ 0 then (hd0, (allF fold rest).2) else ({ (firstP kind s).1 with fs := (allF fold rest).1 }, 0)).1 = hd0
    split
    · intro _; rfl
    split
    · intro _; rfl
    split
    · intro _; rfl
    · intro h; exact absurd rfl h
theorem scanP_err (kind fields fold : Int) : ∀ (ls : List (List UInt8)) (at_ : Nat) (got : List ByteArray) (h : Hd × Int) (u : Nat) (r : List ByteArray), scanP kind fields fold ls at_ got = (some (h, u), r) → h.2 ≠ 0 → h.1 = hd0
  | [], at_, got, h, u, r, e, _ => by cases e
  | l :: ls, at_, got, h, u, r, e, he => by
    rw [scanP] at e
    split at e
    · exact scanP_err kind fields fold ls _ _ h u r e he
    split at e
    · have e1 : h = headP kind fields fold got := by injection e with e1 _; injection e1 with e1; injection e1 with e1 _; exact e1.symm
      rw [e1] at he ⊢
      exact headP_err kind fields fold got he
    · exact scanP_err kind fields fold ls _ _ h u r e he
theorem doneH_len (p : PaS) : (doneH p).fs.length ≤ p.hd.fs.length := by
  unfold doneH
  split
  · exact Nat.le_refl _
  · exact Nat.zero_le _
theorem size_one (w : World) (o : Obj) (k : Nat) : w.heap.size + 1 ≤ (w.alloc o).heap.size + k := by
  simp
theorem feeds_far (w : World) (o : Obj) : ¬ PaP ((w.alloc o).heap.size + 2) ((w.alloc o).heap.size + 1) nilS nilS w.heap.size := by
  have := size_one w o 0
  rintro (e | e | e | e)
  · omega
  · omega
  · cases e
  · cases e
/-- The parser comes to what the reference reads. -/
theorem feeds_plain (kind fields fold a : Int) (l : List UInt8) : (gotP kind fields fold a l).used = ((pRun kind fields fold l (pa0 a)).2 : Int) ∧ (gotP kind fields fold a l).e = (pRun kind fields fold l (pa0 a)).1.e ∧ ((pRun kind fields fold l (pa0 a)).1.fin && (pRun kind fields fold l (pa0 a)).1.e == 0) = ((gotP kind fields fold a l).fin && (gotP kind fields fold a l).e == 0) ∧
    doneH (pRun kind fields fold l (pa0 a)).1 = (gotP kind fields fold a l).hd ∧ (!(pRun kind fields fold l (pa0 a)).1.all.isEmpty || (pRun kind fields fold l (pa0 a)).1.fin || (pRun kind fields fold l (pa0 a)).1.ln.within) = (gotP kind fields fold a l).begun := by
  have h := pRun_rd kind fields fold a l 0 0 0 [] false [] hd0 rfl
  have h0 : (⟨⟨a - ((0 : Nat) : Int), 0, [], !([] : List UInt8).isEmpty || false, false, false, 0⟩, [], false, hd0, 0⟩ : PaS) = pa0 a := by
    unfold pa0 ln0
    simp
  rw [h0] at h
  unfold gotP
  have hsc := scanP_err kind fields fold (rdL a l 0 [] false).1 0 []
  generalize pRun kind fields fold l (pa0 a) = P at h ⊢
  generalize scanP kind fields fold (rdL a l 0 [] false).1 0 [] = z at h hsc ⊢
  generalize (rdL a l 0 [] false).2 = q at h ⊢
  obtain ⟨z1, z2⟩ := z
  cases z1 with
  | none =>
    obtain ⟨h1, h2, h3, h4, h5, h6⟩ := h
    unfold gotZ doneH
    simp only
    refine ⟨by rw [← h5]; simp, h3.symm, by rw [h1]; rfl, by rw [h1]; rfl, ?_⟩
    rw [h1, h2, h6]
    cases q.1 <;> cases z2.isEmpty <;> rfl
  | some hu =>
    obtain ⟨hh, used⟩ := hu
    obtain ⟨h1, h2, h3, h4⟩ := h
    unfold gotZ doneH
    simp only
    refine ⟨by rw [← h4]; simp, h3.symm, by rw [h1, h3], ?_, by rw [h1]; simp⟩
    rw [h1, h3]
    by_cases he : hh.2 = 0
    · rw [he]
      exact h2
    · have e2 : (hh.2 == 0) = false := by rw [beq_eq_false_iff_ne]; exact he
      rw [e2]
      exact (hsc hh used z2 rfl he).symm
set_option maxRecDepth 100000 in
set_option maxHeartbeats 8000000 in
theorem headFeeds_any (kind a fields c d fold : Int) (hai : -9223372036854775808 ≤ a ∧ a ≤ 9223372036854775807) (hfi : -9223372036854775808 ≤ fields ∧ fields ≤ 9223372036854775807) (v : Value) (l : List ByteArray) (w : World) {mx : Int} (hm : w.cell? ⟨0, 0, none⟩ = some (.int .i64 mx)) (hS : Strs w v l) (hl : l.length ≤ 9223372036854775807) (hss : ∀ s ∈ l, s.size ≤ 9223372036854775807) :
    Calls Tryz.prog 5 #[.int .i64 kind, .agg #[.int .i64 a, .int .i64 fields, .int .i64 c, .int .i64 d, .int .i64 fold], v] w fun e w' => e = .returned (.bool true) ∧ Below w.heap.size w w' := by
  have HM := Lib.hid hm
  have HLV := Lib.hid (fun (W : World) (hW : W.cell? ⟨0, 0, none⟩ = some (.int .i64 mx)) => hlives_any W hW)
  have HJC := Lib.hid (fun (W : World) (hW : Strs W v l) => joined_any v l W hW hl)
  have hb0 : Below w.heap.size w (w.alloc (.cells #[.int .i64 a, .int .i64 fields, .int .i64 c, .int .i64 d, .int .i64 fold] 36)) := (Below.refl _ _).alloc (Nat.le_refl _) _
  have HS0 := Lib.hid (hS.below hb0)
  have KL := Lib.hid (Blk.new w #[.int .i64 a, .int .i64 fields, .int .i64 c, .int .i64 d, .int .i64 fold] 36)
  have HU := Lib.hid hb0
  have HSW := Lib.hid hS
  have hjn := joinP_nil l 0 ⟨#[]⟩
  have hjo := joinP_ok l 0 ⟨#[]⟩ (by decide)
  obtain ⟨J, hJ⟩ : ∃ J, J = joinP l 0 ⟨#[]⟩ := ⟨_, rfl⟩
  rw [← hJ] at HJC hjn hjo
  obtain ⟨J1, J2⟩ := J
  have HJO := Lib.hid hjo
  clear hJ hjn hjo hm hb0 hss hS
  by_cases hmay : (a < 0 ∨ 65536 < a) ∨ (kind ≠ 1 ∧ kind ≠ 2)
  · have HNW := Lib.hid (fun (W : World) => hnew_wrong kind a fields c d fold hmay W)
    have hcs : ((kind == 1) = false ∧ (kind == 2) = false) ∨ (((kind == 1) = true ∨ ((kind == 1) = false ∧ (kind == 2) = true)) ∧ (decide (0 ≤ a) = false ∨ (decide (0 ≤ a) = true ∧ decide (a ≤ 65536) = false))) := by
      by_cases k1 : kind = 1
      · right
        refine ⟨Or.inl (by rw [k1]; rfl), ?_⟩
        by_cases h0 : 0 ≤ a
        · exact Or.inr ⟨decide_eq_true h0, decide_eq_false (by omega)⟩
        · exact Or.inl (decide_eq_false h0)
      · by_cases k2 : kind = 2
        · right
          refine ⟨Or.inr ⟨by rw [beq_eq_false_iff_ne]; exact k1, by rw [k2]; rfl⟩, ?_⟩
          by_cases h0 : 0 ≤ a
          · exact Or.inr ⟨decide_eq_true h0, decide_eq_false (by omega)⟩
          · exact Or.inl (decide_eq_false h0)
        · exact Or.inl ⟨by rw [beq_eq_false_iff_ne]; exact k1, by rw [beq_eq_false_iff_ne]; exact k2⟩
    clear hmay
    rcases hcs with ⟨k1, k2⟩ | ⟨k1 | ⟨k1, k2⟩, h0 | ⟨h0, h1⟩⟩
    all_goals
      cases J2
      all_goals
        go_enter Tryz.func5, Tryz.ntmps5
        go_wp2_with (first
          | (go_at_call 17; refine (HJC.out _ HS0.out).mono ?_; rintro e1 w1 ⟨rfl, h1⟩; subst h1)
          | (go_at_call 18; refine (HNW.out _).mono ?_; rintro e2 w2 ⟨rfl, hb2⟩; have q0 := (KL.out.call hb2).cell 0; simp at q0; have HU := Lib.hid (HU.out.trans (hb2.mono HU.out.size)); have HM2 := Lib.hid (mx_below HM.out HU.out); clear hb2)
          | (go_at_call 19; refine (HLV.out _ HM2.out).mono ?_; rintro e5 w5 ⟨rfl, hb5⟩; have HU := Lib.hid (HU.out.trans (hb5.mono HU.out.size)); clear hb5))
        go_ret
        exact ⟨rfl, HU.out⟩
  have ha0 : 0 ≤ a := by omega
  have ha1 : a ≤ 65536 := by omega
  have hk : kind = 1 ∨ kind = 2 := by omega
  have HNW := Lib.hid (fun (W : World) => hnew_any kind a fields c d fold ha0 ha1 hk W)
  have HBD := Lib.hid (pa0_bd ha0 ha1)
  have h0 : decide (0 ≤ a) = true := decide_eq_true ha0
  have h1 : decide (a ≤ 65536) = true := decide_eq_true ha1
  have hkc : (kind == 1) = true ∨ ((kind == 1) = false ∧ (kind == 2) = true) := by
    rcases hk with rfl | rfl
    · exact Or.inl rfl
    · exact Or.inr ⟨rfl, rfl⟩
  clear hmay ha0 ha1 hk
  cases J2 with
  | false =>
    rcases hkc with k1 | ⟨k1, k2⟩
    all_goals
      go_enter Tryz.func5, Tryz.ntmps5
      go_wp2_with (first
        | (go_at_call 17; refine (HJC.out _ HS0.out).mono ?_; rintro e1 w1 ⟨rfl, h1⟩; subst h1)
        | (go_at_call 18; refine (HNW.out _).mono ?_; rintro e2 w2 ⟨rfl, hp2, hb2⟩; have q0 := (KL.out.call hb2).cell 0; simp at q0; have HU := Lib.hid (HU.out.trans (hb2.mono HU.out.size)); have HM2 := Lib.hid (mx_below HM.out HU.out); clear hb2 hp2)
        | (go_at_call 19; refine (HLV.out _ HM2.out).mono ?_; rintro e5 w5 ⟨rfl, hb5⟩; have HU := Lib.hid (HU.out.trans (hb5.mono HU.out.size)); clear hb5))
      go_ret
      exact ⟨rfl, HU.out⟩
  | true =>
    obtain ⟨hj1, hj2, hj3, hj4⟩ := HJO.out rfl
    have hj5 : l.length ≤ 300 := by have := hj3 (by decide); omega
    simp only at hj1 hj2
    have hj1 : J1.data.toList = octs l := by simpa using hj1
    obtain ⟨fu, fe, fd, fh, fb⟩ := feeds_plain kind fields fold a (octs l)
    have HRD := Lib.hid (fun (W : World) => read22_any kind a fields c d fold J1 W (by omega))
    rw [hj1] at HRD
    obtain ⟨G, hG⟩ : ∃ G, G = gotP kind fields fold a (octs l) := ⟨_, rfl⟩
    rw [← hG] at fu fe fd fh fb HRD
    have HNV := Lib.hid (fun (W : World) => (HNW.out W).mono (fun e w' h => (⟨W.heap.size + 2, W.heap.size + 1, h.1, rfl, rfl, h.2⟩ : ∃ b g, e = .returned (.pointer (some ⟨b, 0, none⟩)) ∧ b = W.heap.size + 2 ∧ g = W.heap.size + 1 ∧ PaAt w' b g (W.heap.size + 3) nilS nilS nilS kind a fields c d fold (pa0 a) ∧ Below W.heap.size W w')))
    clear HNW
    have HFD : Hid (∀ (W : World) (b g B : Nat), PaAt W b g B nilS nilS nilS kind a fields c d fold (pa0 a) → W.cell? ⟨0, 0, none⟩ = some (.int .i64 mx) → (∀ V, Touch (PaP b g nilS nilS) W V → Strs V v l) → Calls Tryz.prog 20 #[.pointer (some ⟨b, 0, none⟩), v] W fun e w' => e = .returned (.tuple #[.int .i64 ((pRun kind fields fold (octs l) (pa0 a)).2 : Int), .int .i64 (if l = [] then 0 else G.e)]) ∧ ∃ vl va vf p, PaAt w' b g B vl va vf kind a fields c d fold p ∧ p.hd.fs.length ≤ 65536 ∧ (p.fin && p.e == 0) = (G.fin && G.e == 0) ∧ doneH p = G.hd ∧ (!p.all.isEmpty || p.fin || p.ln.within) = G.begun ∧ Touch (PaP b g nilS nilS) W w') := by
      intro W b g B hp hmx hst
      refine (feed_all hp HBD.out hfi hmx v l hst hj5 (fun t ht => Nat.le_trans (hj4 t ht) (by decide))).mono ?_
      rintro e w' ⟨rfl, vl, va, vf, hp', hbd, t, _, _⟩
      exact ⟨by rw [fe], vl, va, vf, _, hp', hbd.f, fd, fh, fb, t⟩
    obtain ⟨N, hN⟩ : ∃ N, N = (pRun kind fields fold (octs l) (pa0 a)).2 := ⟨_, rfl⟩
    rw [← hN] at fu HFD
    obtain ⟨⟨qm, qt, qk, qn, qr, qf⟩, U, FI, E, BG⟩ := G
    have fu : U = (N : Int) := fu
    subst fu
    have hqf : doneH (pRun kind fields fold (octs l) (pa0 a)).1 = ⟨qm, qt, qk, qn, qr, qf⟩ := fh
    have HSM := Lib.hid (fun (W : World) (f f' : Value) (h1 : Flds W f qf) (h2 : Flds W f' qf) (hl : qf.length ≤ 1000000) => hsame_self ⟨qm, qt, qk, qn, qr, qf⟩ f f' W h1 h2 hl)
    simp only [Hd.row] at HSM
    simp only [GotS.row] at HRD
    clear fe fd fh fb hG hN hqf hj1 hj2 hj3 hj4 hj5 HJO
    obtain ⟨pv, cv, hvs⟩ : ∃ p c, v = .slice p l.length c := by
      obtain ⟨p, c, h, _⟩ := HSW.out
      exact ⟨p, c, h⟩
    subst hvs
    have hlc : (l = [] ∧ l.length = 0) ∨ (l ≠ [] ∧ ∃ m, l.length = m + 1) := by
      cases l with
      | nil => exact Or.inl ⟨rfl, rfl⟩
      | cons x r => exact Or.inr ⟨by simp, r.length, rfl⟩
    have HLC := Lib.hid hlc
    clear hlc
    obtain ⟨DZ, hDZ⟩ : ∃ b, b = (E == 0) := ⟨_, rfl⟩
    rw [← hDZ] at HFD
    have HDZ := Lib.hid hDZ.symm
    clear hDZ
    rcases hkc with k1 | ⟨k1, k2⟩
    all_goals
      rcases HLC.out with ⟨hl1, hl2⟩ | ⟨hl1, m, hl2⟩
      all_goals
        first | rw [if_pos hl1] at HFD | rw [if_neg hl1] at HFD
        rw [hl2] at HFD HJC HS0 HSW ⊢
        clear hl1 hl2 HLC hl
        cases FI with
        | false =>
          simp only [Bool.false_and] at HFD
          go_enter Tryz.func5, Tryz.ntmps5
          go_wp2_with (first
            | (go_at_call 17; refine (HJC.out _ HS0.out).mono ?_; rintro e1 w1 ⟨rfl, h1⟩; subst h1)
            | (go_at_call 18; refine (HNV.out _).mono ?_; rintro e2 w2 ⟨b, g, rfl, hbe, hge, hp2, hb2⟩; have HBG := Lib.hid (And.intro hbe hge); have KL2 := Lib.hid (KL.out.call hb2); have q0 := KL2.out.cell 0; simp at q0; have HZ := Lib.hid HU.out.size; have HU := Lib.hid (HU.out.trans (hb2.mono HU.out.size)); have HM2 := Lib.hid (mx_below HM.out HU.out); have HP2 := Lib.hid hp2; clear hb2 hp2 hbe hge)
            | (go_at_call 20; refine (HFD.out _ _ _ _ HP2.out HM2.out (fun V t => HSW.out.below (HU.out.trans (paP_below t (N := w.heap.size) (by rw [HBG.out.1]; exact Nat.le_trans HZ.out (Nat.le_add_right _ 2)) (by rw [HBG.out.2]; exact Nat.le_trans HZ.out (Nat.le_add_right _ 1)) (fun k hk => by cases hk) (fun k hk => by cases hk) HU.out.size)))).mono ?_; rintro e3 w3 ⟨rfl, vl, va, vf, p, hp3, hln, hdn, hdo, hbg, t3⟩; have hq3 := (paP_below t3 (N := w.heap.size + 1) (by rw [HBG.out.1]; exact size_one w _ 2) (by rw [HBG.out.2]; exact size_one w _ 1) (fun k hk => by cases hk) (fun k hk => by cases hk) (Nat.le_trans (by rw [HBG.out.1]; exact size_one w _ 2) (Nat.le_of_lt HP2.out.k.lt))); have KL3 := Lib.hid (show Blk w3 w.heap.size #[.int .i64 a, .int .i64 fields, .int .i64 c, .int .i64 d, .int .i64 fold] 36 from KL2.out.touch t3 (by rw [HBG.out.1, HBG.out.2]; exact feeds_far w _)); have HU := Lib.hid (HU.out.trans (hq3.mono (Nat.le_succ _))); clear q0; have q0 := KL3.out.cell 0; have q1 := KL3.out.cell 1; have q2 := KL3.out.cell 2; have q3 := KL3.out.cell 3; have q4 := KL3.out.cell 4; simp at q0 q1 q2 q3 q4; have HP3 := Lib.hid hp3; have HI3 := Lib.hid (And.intro hln (And.intro hdn (And.intro hdo hbg))); clear hp3 hln hdn hdo hbg t3 hq3)
            | (go_at_call 21; refine (HRD.out _).mono ?_; rintro e4 w4 ⟨f4, rfl, ho4, hb4⟩; obtain ⟨p4, c4, rfl⟩ := own_slice ho4; simp only at ho4 ⊢; have hbn := (Below.refl w4.heap.size w4).alloc (Nat.le_refl _) (.cells #[.string qm, .string qt, .int .i64 qk, .int .i64 qn, .string qr, .slice p4 qf.length c4, .int .i64 (N : Int), .bool false, .int .i64 E, .bool BG] 45); have KG := Lib.hid (Blk.new w4 #[.string qm, .string qt, .int .i64 qk, .int .i64 qn, .string qr, .slice p4 qf.length c4, .int .i64 (N : Int), .bool false, .int .i64 E, .bool BG] 45); have HF4 := Lib.hid (ho4.flds.below hbn); have HP4 := Lib.hid ((HP3.out.touch (P := fun _ => False) (Touch.of_below hb4) id id (fun _ _ => id)).touch (P := fun _ => False) (Touch.of_below hbn) id id (fun _ _ => id)); have HU := Lib.hid ((HU.out.trans (hb4.mono HU.out.size)).trans (hbn.mono (Nat.le_trans HU.out.size hb4.size))); clear q0 q1 q2 q3 q4; have y8 := KG.out.cell 8; simp at y8; clear hb4 ho4 hbn))
          refine wp_region_at (S := fun v => Blk v w4.heap.size #[.string qm, .string qt, .int .i64 qk, .int .i64 qn, .string qr, .slice p4 qf.length c4, .int .i64 (N : Int), .bool false, .int .i64 E, .bool BG] 45) (by kernel_rfl) ?_
          intro V0 hV0
          have h0 := KG.out.drew
          have hp0 := HP4.out.drew
          have hf0 := HF4.out.below ((Below.refl _ _).drew)
          have hu0 := HU.out.drew
          rw [← hV0] at h0 hp0 hf0 hu0
          have HF0 := Lib.hid hf0
          have HU0 := Lib.hid hu0
          have hd0 := hdone_any hp0
          rw [HI3.out.2.1] at hd0
          have HDC := Lib.hid hd0
          have hh0 := hhead_any hp0 (Nat.le_trans HI3.out.1 (by decide))
          rw [HI3.out.2.2.1] at hh0
          have HHC := Lib.hid hh0
          have HP0 := Lib.hid hp0
          have HQL := Lib.hid (show qf.length ≤ 1000000 by have h3 := doneH_len p; rw [HI3.out.2.2.1] at h3; exact Nat.le_trans h3 (Nat.le_trans HI3.out.1 (by decide)))
          clear hV0 hp0 hf0 hu0 hd0 hh0 y8 KG HF4 HP4 HP3 HU HP2 HM2 KL3 KL2 HFD HRD HJC HNV HS0 HSW HBD KL hfi hai h1
          refine wpAnyH_take (i := 0) (v := .int .i64 (N : Int)) rfl (by kernel_rfl) (by kernel_rfl) (by kernel_rfl) (fun _ _ _ h => h) (Or.inl ⟨by kernel_rfl, ?_⟩) h0 ?_
          · intro v hv
            clear hv
            go_simp
          (try simp only [Act.put, List.setIfInBounds_toArray, List.set_cons_zero, List.set_cons_succ])
          refine wpAnyH_take (i := 1) (v := .pointer (some ⟨w4.heap.size, 6, none⟩)) rfl (by kernel_rfl) (by kernel_rfl) (by kernel_rfl) (fun _ _ _ h => h) (Or.inl ⟨by kernel_rfl, ?_⟩) h0 ?_
          · intro v hv
            clear hv
            go_simp
          (try simp only [Act.put, List.setIfInBounds_toArray, List.set_cons_zero, List.set_cons_succ])
          refine wpAnyH_take (i := 2) (v := .int .i64 (N : Int)) rfl (by kernel_rfl) (by kernel_rfl) (by kernel_rfl) (fun _ _ _ h => h) (Or.inl ⟨by kernel_rfl, ?_⟩) h0 ?_
          · intro v hv
            have k6 := hv.cell 6
            simp at k6
            clear hv
            go_simp
          (try simp only [Act.put, List.setIfInBounds_toArray, List.set_cons_zero, List.set_cons_succ])
          refine wpAnyH_take (i := 3) (v := .bool true) rfl (by kernel_rfl) (by kernel_rfl) (by kernel_rfl) (fun _ _ _ h => h) (Or.inl ⟨by kernel_rfl, ?_⟩) h0 ?_
          · intro v hv
            clear hv
            go_simp
          (try simp only [Act.put, List.setIfInBounds_toArray, List.set_cons_zero, List.set_cons_succ])
          refine wpAnyH_take (i := 4) (v := .bool true) rfl (by kernel_rfl) (by kernel_rfl) (by kernel_rfl) (fun _ _ _ h => h) (Or.inl ⟨by kernel_rfl, ?_⟩) h0 ?_
          · intro v hv
            clear hv
            go_simp
          (try simp only [Act.put, List.setIfInBounds_toArray, List.set_cons_zero, List.set_cons_succ])
          refine wpAnyH_take (i := 5) (v := .int .i64 E) rfl (by kernel_rfl) (by kernel_rfl) (by kernel_rfl) (fun _ _ _ h => h) (Or.inl ⟨by kernel_rfl, ?_⟩) h0 ?_
          · intro v hv
            clear hv
            go_simp
          (try simp only [Act.put, List.setIfInBounds_toArray, List.set_cons_zero, List.set_cons_succ])
          refine wpAnyH_take (i := 6) (v := .pointer (some ⟨w4.heap.size, 8, none⟩)) rfl (by kernel_rfl) (by kernel_rfl) (by kernel_rfl) (fun _ _ _ h => h) (Or.inl ⟨by kernel_rfl, ?_⟩) h0 ?_
          · intro v hv
            clear hv
            go_simp
          (try simp only [Act.put, List.setIfInBounds_toArray, List.set_cons_zero, List.set_cons_succ])
          refine wpAnyH_take (i := 7) (v := .int .i64 E) rfl (by kernel_rfl) (by kernel_rfl) (by kernel_rfl) (fun _ _ _ h => h) (Or.inl ⟨by kernel_rfl, ?_⟩) h0 ?_
          · intro v hv
            have k8 := hv.cell 8
            simp at k8
            clear hv
            go_simp
          (try simp only [Act.put, List.setIfInBounds_toArray, List.set_cons_zero, List.set_cons_succ])
          refine wpAnyH_take (i := 8) (v := .bool true) rfl (by kernel_rfl) (by kernel_rfl) (by kernel_rfl) (fun _ _ _ h => h) (Or.inl ⟨by kernel_rfl, ?_⟩) h0 ?_
          · intro v hv
            clear hv
            go_simp
          (try simp only [Act.put, List.setIfInBounds_toArray, List.set_cons_zero, List.set_cons_succ])
          refine wpAnyH_take (i := 9) (v := .bool true) rfl (by kernel_rfl) (by kernel_rfl) (by kernel_rfl) (fun _ _ _ h => h) (Or.inl ⟨by kernel_rfl, ?_⟩) h0 ?_
          · intro v hv
            clear hv
            go_simp
          (try simp only [Act.put, List.setIfInBounds_toArray, List.set_cons_zero, List.set_cons_succ])
          refine wpAnyH_take (i := 10) (v := .bool true) rfl (by kernel_rfl) (by kernel_rfl) (by kernel_rfl) (fun _ _ _ h => h) (Or.inl ⟨by kernel_rfl, ?_⟩) h0 ?_
          · intro v hv
            clear hv
            go_simp
          (try simp only [Act.put, List.setIfInBounds_toArray, List.set_cons_zero, List.set_cons_succ])
          refine wpAnyH_take (i := 11) (v := .pointer (some ⟨b, 0, none⟩)) rfl (by kernel_rfl) (by kernel_rfl) (by kernel_rfl) (fun _ _ _ h => h) (Or.inl ⟨by kernel_rfl, ?_⟩) h0 ?_
          · intro v hv
            clear hv
            go_simp
          (try simp only [Act.put, List.setIfInBounds_toArray, List.set_cons_zero, List.set_cons_succ])
          refine wpAnyH_take (i := 13) (v := .pointer (some ⟨w4.heap.size, 7, none⟩)) rfl (by kernel_rfl) (by kernel_rfl) (by kernel_rfl) (fun _ _ _ h => h) (Or.inl ⟨by kernel_rfl, ?_⟩) h0 ?_
          · intro v hv
            clear hv
            go_simp
          (try simp only [Act.put, List.setIfInBounds_toArray, List.set_cons_zero, List.set_cons_succ])
          refine wpAnyH_take (i := 14) (v := .bool false) rfl (by kernel_rfl) (by kernel_rfl) (by kernel_rfl) (fun _ _ _ h => h) (Or.inl ⟨by kernel_rfl, ?_⟩) h0 ?_
          · intro v hv
            have k7 := hv.cell 7
            simp at k7
            clear hv
            go_simp
          (try simp only [Act.put, List.setIfInBounds_toArray, List.set_cons_zero, List.set_cons_succ])
          refine wpAnyH_ready (rs := [12]) (by kernel_rfl) (by simp) ?_
          refine AllReadyH.cons rfl (fun K hK => ?_) AllReadyH.nil
          go_simp
          refine HDC.out.mono ?_
          rintro e V1 ⟨rfl, h1⟩
          subst h1
          refine hK _ _ h0 (fun _ => ?_)
          clear hK K
          (try simp only [Act.put, List.setIfInBounds_toArray, List.set_cons_zero, List.set_cons_succ])
          refine wpAnyH_take (i := 15) (v := .bool false) rfl (by kernel_rfl) (by kernel_rfl) (by kernel_rfl) (fun _ _ _ h => h) (Or.inl ⟨by kernel_rfl, ?_⟩) h0 ?_
          · intro v hv
            clear hv
            go_simp
          (try simp only [Act.put, List.setIfInBounds_toArray, List.set_cons_zero, List.set_cons_succ])
          refine wpAnyH_take (i := 16) (v := undef) rfl (by kernel_rfl) (by kernel_rfl) (by kernel_rfl) (fun _ _ _ h => h) (Or.inr ⟨by kernel_rfl, rfl⟩) h0 ?_
          (try simp only [Act.put, List.setIfInBounds_toArray, List.set_cons_zero, List.set_cons_succ])
          refine wpAnyH_take (i := 17) (v := undef) rfl (by kernel_rfl) (by kernel_rfl) (by kernel_rfl) (fun _ _ _ h => h) (Or.inr ⟨by kernel_rfl, rfl⟩) h0 ?_
          (try simp only [Act.put, List.setIfInBounds_toArray, List.set_cons_zero, List.set_cons_succ])
          refine wpAnyH_take (i := 18) (v := undef) rfl (by kernel_rfl) (by kernel_rfl) (by kernel_rfl) (fun _ _ _ h => h) (Or.inr ⟨by kernel_rfl, rfl⟩) h0 ?_
          (try simp only [Act.put, List.setIfInBounds_toArray, List.set_cons_zero, List.set_cons_succ])
          refine wpAnyH_take (i := 19) (v := .bool false) rfl (by kernel_rfl) (by kernel_rfl) (by kernel_rfl) (fun _ _ _ h => h) (Or.inl ⟨by kernel_rfl, ?_⟩) h0 ?_
          · intro v hv
            clear hv
            go_simp
          (try simp only [Act.put, List.setIfInBounds_toArray, List.set_cons_zero, List.set_cons_succ])
          refine wpAnyH_take (i := 20) (v := .bool true) rfl (by kernel_rfl) (by kernel_rfl) (by kernel_rfl) (fun _ _ _ h => h) (Or.inl ⟨by kernel_rfl, ?_⟩) h0 ?_
          · intro v hv
            clear hv
            go_simp
          (try simp only [Act.put, List.setIfInBounds_toArray, List.set_cons_zero, List.set_cons_succ])
          refine wpAnyH_take (i := 21) (v := .bool true) rfl (by kernel_rfl) (by kernel_rfl) (by kernel_rfl) (fun _ _ _ h => h) (Or.inl ⟨by kernel_rfl, ?_⟩) h0 ?_
          · intro v hv
            clear hv
            go_simp
          (try simp only [Act.put, List.setIfInBounds_toArray, List.set_cons_zero, List.set_cons_succ])
          refine wpAnyH_take (i := 22) (v := .bool true) rfl (by kernel_rfl) (by kernel_rfl) (by kernel_rfl) (fun _ _ _ h => h) (Or.inl ⟨by kernel_rfl, ?_⟩) h0 ?_
          · intro v hv
            clear hv
            go_simp
          (try simp only [Act.put, List.setIfInBounds_toArray, List.set_cons_zero, List.set_cons_succ])
          refine wpAnyH_take (i := 23) (v := .pointer (some ⟨b, 0, none⟩)) rfl (by kernel_rfl) (by kernel_rfl) (by kernel_rfl) (fun _ _ _ h => h) (Or.inl ⟨by kernel_rfl, ?_⟩) h0 ?_
          · intro v hv
            clear hv
            go_simp
          (try simp only [Act.put, List.setIfInBounds_toArray, List.set_cons_zero, List.set_cons_succ])
          refine wpAnyH_take (i := 25) (v := .pointer (some ⟨w4.heap.size, 0, none⟩)) rfl (by kernel_rfl) (by kernel_rfl) (by kernel_rfl) (fun _ _ _ h => h) (Or.inl ⟨by kernel_rfl, ?_⟩) h0 ?_
          · intro v hv
            clear hv
            go_simp
          (try simp only [Act.put, List.setIfInBounds_toArray, List.set_cons_zero, List.set_cons_succ])
          refine wpAnyH_take (i := 26) (v := .agg #[.string qm, .string qt, .int .i64 qk, .int .i64 qn, .string qr, .slice p4 qf.length c4]) rfl (by kernel_rfl) (by kernel_rfl) (by kernel_rfl) (fun _ _ _ h => h) (Or.inl ⟨by kernel_rfl, ?_⟩) h0 ?_
          · intro v hv
            have k0 := hv.cell 0
            have k1 := hv.cell 1
            have k2 := hv.cell 2
            have k3 := hv.cell 3
            have k4 := hv.cell 4
            have k5 := hv.cell 5
            simp at k0 k1 k2 k3 k4 k5
            clear hv
            go_simp
          (try simp only [Act.put, List.setIfInBounds_toArray, List.set_cons_zero, List.set_cons_succ])
          refine wpAnyH_ready (rs := [24]) (by kernel_rfl) (by simp) ?_
          refine AllReadyH.cons rfl (fun K hK => ?_) AllReadyH.nil
          go_simp
          refine HHC.out.mono ?_
          rintro e V1 ⟨f6, rfl, ho6, hb6⟩
          obtain ⟨p6, c6, rfl⟩ := own_slice ho6
          simp only [Hd.row] at ho6 ⊢
          have h1 := h0.call hb6
          have HF1 := Lib.hid (HF0.out.below hb6)
          have HF6 := Lib.hid ho6.flds
          have HP1 := Lib.hid (HP0.out.touch (P := fun _ => False) (Touch.of_below hb6) id id (fun _ _ => id))
          have HU1 := Lib.hid (HU0.out.trans (hb6.mono HU0.out.size))
          clear ho6 hb6 h0
          refine hK _ _ h1 (fun _ => ?_)
          clear hK K
          (try simp only [Act.put, List.setIfInBounds_toArray, List.set_cons_zero, List.set_cons_succ])
          refine wpAnyH_ready (rs := [27]) (by kernel_rfl) (by simp) ?_
          refine AllReadyH.cons rfl (fun K hK => ?_) AllReadyH.nil
          go_simp
          refine (HSM.out _ _ _ HF6.out HF1.out HQL.out).mono ?_
          rintro e V2 ⟨rfl, hb7⟩
          have h2 := h1.call hb7
          have hbg := hbegun_any (HP1.out.touch (P := fun _ => False) (Touch.of_below hb7) id id (fun _ _ => id))
          rw [HI3.out.2.2.2] at hbg
          have HBC := Lib.hid hbg
          have HU2 := Lib.hid (HU1.out.trans (hb7.mono HU1.out.size))
          clear hb7 hbg h1
          refine hK _ _ h2 (fun _ => ?_)
          clear hK K
          (try simp only [Act.put, List.setIfInBounds_toArray, List.set_cons_zero, List.set_cons_succ])
          refine wpAnyH_take (i := 28) (v := .bool true) rfl (by kernel_rfl) (by kernel_rfl) (by kernel_rfl) (fun _ _ _ h => h) (Or.inl ⟨by kernel_rfl, ?_⟩) h2 ?_
          · intro v hv
            clear hv
            go_simp
          (try simp only [Act.put, List.setIfInBounds_toArray, List.set_cons_zero, List.set_cons_succ])
          refine wpAnyH_take (i := 29) (v := .bool true) rfl (by kernel_rfl) (by kernel_rfl) (by kernel_rfl) (fun _ _ _ h => h) (Or.inl ⟨by kernel_rfl, ?_⟩) h2 ?_
          · intro v hv
            clear hv
            go_simp
          (try simp only [Act.put, List.setIfInBounds_toArray, List.set_cons_zero, List.set_cons_succ])
          refine wpAnyH_take (i := 30) (v := .pointer (some ⟨b, 0, none⟩)) rfl (by kernel_rfl) (by kernel_rfl) (by kernel_rfl) (fun _ _ _ h => h) (Or.inl ⟨by kernel_rfl, ?_⟩) h2 ?_
          · intro v hv
            clear hv
            go_simp
          (try simp only [Act.put, List.setIfInBounds_toArray, List.set_cons_zero, List.set_cons_succ])
          refine wpAnyH_take (i := 32) (v := .pointer (some ⟨w4.heap.size, 9, none⟩)) rfl (by kernel_rfl) (by kernel_rfl) (by kernel_rfl) (fun _ _ _ h => h) (Or.inl ⟨by kernel_rfl, ?_⟩) h2 ?_
          · intro v hv
            clear hv
            go_simp
          (try simp only [Act.put, List.setIfInBounds_toArray, List.set_cons_zero, List.set_cons_succ])
          refine wpAnyH_take (i := 33) (v := .bool BG) rfl (by kernel_rfl) (by kernel_rfl) (by kernel_rfl) (fun _ _ _ h => h) (Or.inl ⟨by kernel_rfl, ?_⟩) h2 ?_
          · intro v hv
            have k9 := hv.cell 9
            simp at k9
            clear hv
            go_simp
          (try simp only [Act.put, List.setIfInBounds_toArray, List.set_cons_zero, List.set_cons_succ])
          refine wpAnyH_ready (rs := [31]) (by kernel_rfl) (by simp) ?_
          refine AllReadyH.cons rfl (fun K hK => ?_) AllReadyH.nil
          go_simp
          refine HBC.out.mono ?_
          rintro e V3 ⟨rfl, h3⟩
          subst h3
          refine hK _ _ h2 (fun _ => ?_)
          clear hK K
          (try simp only [Act.put, List.setIfInBounds_toArray, List.set_cons_zero, List.set_cons_succ])
          refine wpAnyH_take (i := 34) (v := .bool true) rfl (by kernel_rfl) (by kernel_rfl) (by kernel_rfl) (fun _ _ _ h => h) (Or.inl ⟨by kernel_rfl, ?_⟩) h2 ?_
          · intro v hv
            clear hv
            go_simp
          (try simp only [Act.put, List.setIfInBounds_toArray, List.set_cons_zero, List.set_cons_succ])
          refine wpAnyH_take (i := 35) (v := .bool true) rfl (by kernel_rfl) (by kernel_rfl) (by kernel_rfl) (fun _ _ _ h => h) (Or.inl ⟨by kernel_rfl, ?_⟩) h2 ?_
          · intro v hv
            clear hv
            go_simp
          (try simp only [Act.put, List.setIfInBounds_toArray, List.set_cons_zero, List.set_cons_succ])
          refine wpAnyH_take (i := 36) (v := .bool true) rfl (by kernel_rfl) (by kernel_rfl) (by kernel_rfl) (fun _ _ _ h => h) (Or.inl ⟨by kernel_rfl, ?_⟩) h2 ?_
          · intro v hv
            clear hv
            go_simp
          (try simp only [Act.put, List.setIfInBounds_toArray, List.set_cons_zero, List.set_cons_succ])
          refine wpAnyH_ready (rs := [37]) (by kernel_rfl) (by simp) ?_
          refine AllReadyH.cons rfl (fun K hK => ?_) AllReadyH.nil
          go_simp
          refine (HLV.out _ (mx_below HM.out HU2.out)).mono ?_
          rintro e V3 ⟨rfl, hb9⟩
          have h3 := h2.call hb9
          have HU3 := Lib.hid (HU2.out.trans (hb9.mono HU2.out.size))
          clear hb9 h2
          refine hK _ _ h3 (fun _ => ?_)
          clear hK K
          (try simp only [Act.put, List.setIfInBounds_toArray, List.set_cons_zero, List.set_cons_succ])
          refine wpAnyH_take (i := 38) (v := .bool true) rfl (by kernel_rfl) (by kernel_rfl) (by kernel_rfl) (fun _ _ _ h => h) (Or.inl ⟨by kernel_rfl, ?_⟩) h3 ?_
          · intro v hv
            clear hv
            go_simp
          (try simp only [Act.put, List.setIfInBounds_toArray, List.set_cons_zero, List.set_cons_succ])
          refine wpAnyH_ready (rs := [39]) (by kernel_rfl) (by simp) ?_
          refine AllReadyH.cons rfl (fun K hK => ?_) AllReadyH.nil
          go_simp
          refine hK _ _ h3 (fun _ => ?_)
          clear hK K
          (try simp only [Act.put, List.setIfInBounds_toArray, List.set_cons_zero, List.set_cons_succ])
          refine wpAnyH_done (by kernel_rfl) ?_ _
          go_wp2_with fail
          go_ret
          exact ⟨rfl, HU3.out⟩
        | true =>
          simp only [Bool.true_and] at HFD
          go_enter Tryz.func5, Tryz.ntmps5
          go_wp2_with (first
            | (go_at_call 17; refine (HJC.out _ HS0.out).mono ?_; rintro e1 w1 ⟨rfl, h1⟩; subst h1)
            | (go_at_call 18; refine (HNV.out _).mono ?_; rintro e2 w2 ⟨b, g, rfl, hbe, hge, hp2, hb2⟩; have HBG := Lib.hid (And.intro hbe hge); have KL2 := Lib.hid (KL.out.call hb2); have q0 := KL2.out.cell 0; simp at q0; have HZ := Lib.hid HU.out.size; have HU := Lib.hid (HU.out.trans (hb2.mono HU.out.size)); have HM2 := Lib.hid (mx_below HM.out HU.out); have HP2 := Lib.hid hp2; clear hb2 hp2 hbe hge)
            | (go_at_call 20; refine (HFD.out _ _ _ _ HP2.out HM2.out (fun V t => HSW.out.below (HU.out.trans (paP_below t (N := w.heap.size) (by rw [HBG.out.1]; exact Nat.le_trans HZ.out (Nat.le_add_right _ 2)) (by rw [HBG.out.2]; exact Nat.le_trans HZ.out (Nat.le_add_right _ 1)) (fun k hk => by cases hk) (fun k hk => by cases hk) HU.out.size)))).mono ?_; rintro e3 w3 ⟨rfl, vl, va, vf, p, hp3, hln, hdn, hdo, hbg, t3⟩; have hq3 := (paP_below t3 (N := w.heap.size + 1) (by rw [HBG.out.1]; exact size_one w _ 2) (by rw [HBG.out.2]; exact size_one w _ 1) (fun k hk => by cases hk) (fun k hk => by cases hk) (Nat.le_trans (by rw [HBG.out.1]; exact size_one w _ 2) (Nat.le_of_lt HP2.out.k.lt))); have KL3 := Lib.hid (show Blk w3 w.heap.size #[.int .i64 a, .int .i64 fields, .int .i64 c, .int .i64 d, .int .i64 fold] 36 from KL2.out.touch t3 (by rw [HBG.out.1, HBG.out.2]; exact feeds_far w _)); have HU := Lib.hid (HU.out.trans (hq3.mono (Nat.le_succ _))); clear q0; have q0 := KL3.out.cell 0; have q1 := KL3.out.cell 1; have q2 := KL3.out.cell 2; have q3 := KL3.out.cell 3; have q4 := KL3.out.cell 4; simp at q0 q1 q2 q3 q4; have HP3 := Lib.hid hp3; have HI3 := Lib.hid (And.intro hln (And.intro hdn (And.intro hdo hbg))); clear hp3 hln hdn hdo hbg t3 hq3)
            | (go_at_call 21; refine (HRD.out _).mono ?_; rintro e4 w4 ⟨f4, rfl, ho4, hb4⟩; obtain ⟨p4, c4, rfl⟩ := own_slice ho4; simp only at ho4 ⊢; have hbn := (Below.refl w4.heap.size w4).alloc (Nat.le_refl _) (.cells #[.string qm, .string qt, .int .i64 qk, .int .i64 qn, .string qr, .slice p4 qf.length c4, .int .i64 (N : Int), .bool true, .int .i64 E, .bool BG] 45); have KG := Lib.hid (Blk.new w4 #[.string qm, .string qt, .int .i64 qk, .int .i64 qn, .string qr, .slice p4 qf.length c4, .int .i64 (N : Int), .bool true, .int .i64 E, .bool BG] 45); have HF4 := Lib.hid (ho4.flds.below hbn); have HP4 := Lib.hid ((HP3.out.touch (P := fun _ => False) (Touch.of_below hb4) id id (fun _ _ => id)).touch (P := fun _ => False) (Touch.of_below hbn) id id (fun _ _ => id)); have HU := Lib.hid ((HU.out.trans (hb4.mono HU.out.size)).trans (hbn.mono (Nat.le_trans HU.out.size hb4.size))); clear q0 q1 q2 q3 q4; have y8 := KG.out.cell 8; simp at y8; clear hb4 ho4 hbn))
          refine wp_region_at (S := fun v => Blk v w4.heap.size #[.string qm, .string qt, .int .i64 qk, .int .i64 qn, .string qr, .slice p4 qf.length c4, .int .i64 (N : Int), .bool true, .int .i64 E, .bool BG] 45) (by kernel_rfl) ?_
          intro V0 hV0
          have h0 := KG.out.drew
          have hp0 := HP4.out.drew
          have hf0 := HF4.out.below ((Below.refl _ _).drew)
          have hu0 := HU.out.drew
          rw [← hV0] at h0 hp0 hf0 hu0
          have HF0 := Lib.hid hf0
          have HU0 := Lib.hid hu0
          have hd0 := hdone_any hp0
          rw [HI3.out.2.1] at hd0
          have HDC := Lib.hid hd0
          have hh0 := hhead_any hp0 (Nat.le_trans HI3.out.1 (by decide))
          rw [HI3.out.2.2.1] at hh0
          have HHC := Lib.hid hh0
          have HP0 := Lib.hid hp0
          have HQL := Lib.hid (show qf.length ≤ 1000000 by have h3 := doneH_len p; rw [HI3.out.2.2.1] at h3; exact Nat.le_trans h3 (Nat.le_trans HI3.out.1 (by decide)))
          clear hV0 hp0 hf0 hu0 hd0 hh0 y8 KG HF4 HP4 HP3 HU HP2 HM2 KL3 KL2 HFD HRD HJC HNV HS0 HSW HBD KL hfi hai h1
          refine wpAnyH_take (i := 0) (v := .int .i64 (N : Int)) rfl (by kernel_rfl) (by kernel_rfl) (by kernel_rfl) (fun _ _ _ h => h) (Or.inl ⟨by kernel_rfl, ?_⟩) h0 ?_
          · intro v hv
            clear hv
            go_simp
          (try simp only [Act.put, List.setIfInBounds_toArray, List.set_cons_zero, List.set_cons_succ])
          refine wpAnyH_take (i := 1) (v := .pointer (some ⟨w4.heap.size, 6, none⟩)) rfl (by kernel_rfl) (by kernel_rfl) (by kernel_rfl) (fun _ _ _ h => h) (Or.inl ⟨by kernel_rfl, ?_⟩) h0 ?_
          · intro v hv
            clear hv
            go_simp
          (try simp only [Act.put, List.setIfInBounds_toArray, List.set_cons_zero, List.set_cons_succ])
          refine wpAnyH_take (i := 2) (v := .int .i64 (N : Int)) rfl (by kernel_rfl) (by kernel_rfl) (by kernel_rfl) (fun _ _ _ h => h) (Or.inl ⟨by kernel_rfl, ?_⟩) h0 ?_
          · intro v hv
            have k6 := hv.cell 6
            simp at k6
            clear hv
            go_simp
          (try simp only [Act.put, List.setIfInBounds_toArray, List.set_cons_zero, List.set_cons_succ])
          refine wpAnyH_take (i := 3) (v := .bool true) rfl (by kernel_rfl) (by kernel_rfl) (by kernel_rfl) (fun _ _ _ h => h) (Or.inl ⟨by kernel_rfl, ?_⟩) h0 ?_
          · intro v hv
            clear hv
            go_simp
          (try simp only [Act.put, List.setIfInBounds_toArray, List.set_cons_zero, List.set_cons_succ])
          refine wpAnyH_take (i := 4) (v := .bool true) rfl (by kernel_rfl) (by kernel_rfl) (by kernel_rfl) (fun _ _ _ h => h) (Or.inl ⟨by kernel_rfl, ?_⟩) h0 ?_
          · intro v hv
            clear hv
            go_simp
          (try simp only [Act.put, List.setIfInBounds_toArray, List.set_cons_zero, List.set_cons_succ])
          refine wpAnyH_take (i := 5) (v := .int .i64 E) rfl (by kernel_rfl) (by kernel_rfl) (by kernel_rfl) (fun _ _ _ h => h) (Or.inl ⟨by kernel_rfl, ?_⟩) h0 ?_
          · intro v hv
            clear hv
            go_simp
          (try simp only [Act.put, List.setIfInBounds_toArray, List.set_cons_zero, List.set_cons_succ])
          refine wpAnyH_take (i := 6) (v := .pointer (some ⟨w4.heap.size, 8, none⟩)) rfl (by kernel_rfl) (by kernel_rfl) (by kernel_rfl) (fun _ _ _ h => h) (Or.inl ⟨by kernel_rfl, ?_⟩) h0 ?_
          · intro v hv
            clear hv
            go_simp
          (try simp only [Act.put, List.setIfInBounds_toArray, List.set_cons_zero, List.set_cons_succ])
          refine wpAnyH_take (i := 7) (v := .int .i64 E) rfl (by kernel_rfl) (by kernel_rfl) (by kernel_rfl) (fun _ _ _ h => h) (Or.inl ⟨by kernel_rfl, ?_⟩) h0 ?_
          · intro v hv
            have k8 := hv.cell 8
            simp at k8
            clear hv
            go_simp
          (try simp only [Act.put, List.setIfInBounds_toArray, List.set_cons_zero, List.set_cons_succ])
          refine wpAnyH_take (i := 8) (v := .bool true) rfl (by kernel_rfl) (by kernel_rfl) (by kernel_rfl) (fun _ _ _ h => h) (Or.inl ⟨by kernel_rfl, ?_⟩) h0 ?_
          · intro v hv
            clear hv
            go_simp
          (try simp only [Act.put, List.setIfInBounds_toArray, List.set_cons_zero, List.set_cons_succ])
          refine wpAnyH_take (i := 9) (v := .bool true) rfl (by kernel_rfl) (by kernel_rfl) (by kernel_rfl) (fun _ _ _ h => h) (Or.inl ⟨by kernel_rfl, ?_⟩) h0 ?_
          · intro v hv
            clear hv
            go_simp
          (try simp only [Act.put, List.setIfInBounds_toArray, List.set_cons_zero, List.set_cons_succ])
          refine wpAnyH_take (i := 10) (v := .bool true) rfl (by kernel_rfl) (by kernel_rfl) (by kernel_rfl) (fun _ _ _ h => h) (Or.inl ⟨by kernel_rfl, ?_⟩) h0 ?_
          · intro v hv
            clear hv
            go_simp
          (try simp only [Act.put, List.setIfInBounds_toArray, List.set_cons_zero, List.set_cons_succ])
          refine wpAnyH_take (i := 11) (v := .pointer (some ⟨b, 0, none⟩)) rfl (by kernel_rfl) (by kernel_rfl) (by kernel_rfl) (fun _ _ _ h => h) (Or.inl ⟨by kernel_rfl, ?_⟩) h0 ?_
          · intro v hv
            clear hv
            go_simp
          (try simp only [Act.put, List.setIfInBounds_toArray, List.set_cons_zero, List.set_cons_succ])
          refine wpAnyH_take (i := 13) (v := .pointer (some ⟨w4.heap.size, 7, none⟩)) rfl (by kernel_rfl) (by kernel_rfl) (by kernel_rfl) (fun _ _ _ h => h) (Or.inl ⟨by kernel_rfl, ?_⟩) h0 ?_
          · intro v hv
            clear hv
            go_simp
          (try simp only [Act.put, List.setIfInBounds_toArray, List.set_cons_zero, List.set_cons_succ])
          refine wpAnyH_take (i := 14) (v := .bool true) rfl (by kernel_rfl) (by kernel_rfl) (by kernel_rfl) (fun _ _ _ h => h) (Or.inl ⟨by kernel_rfl, ?_⟩) h0 ?_
          · intro v hv
            have k7 := hv.cell 7
            simp at k7
            clear hv
            go_simp
          (try simp only [Act.put, List.setIfInBounds_toArray, List.set_cons_zero, List.set_cons_succ])
          refine wpAnyH_ready (rs := [12]) (by kernel_rfl) (by simp) ?_
          refine AllReadyH.cons rfl (fun K hK => ?_) AllReadyH.nil
          go_simp
          refine HDC.out.mono ?_
          rintro e V1 ⟨rfl, h1⟩
          subst h1
          refine hK _ _ h0 (fun _ => ?_)
          clear hK K
          (try simp only [Act.put, List.setIfInBounds_toArray, List.set_cons_zero, List.set_cons_succ])
          refine wpAnyH_take (i := 15) (v := .bool true) rfl (by kernel_rfl) (by kernel_rfl) (by kernel_rfl) (fun _ _ _ h => h) (Or.inl ⟨by kernel_rfl, ?_⟩) h0 ?_
          · intro v hv
            clear hv
            go_simp
          (try simp only [Act.put, List.setIfInBounds_toArray, List.set_cons_zero, List.set_cons_succ])
          refine wpAnyH_take (i := 16) (v := .pointer (some ⟨w4.heap.size, 8, none⟩)) rfl (by kernel_rfl) (by kernel_rfl) (by kernel_rfl) (fun _ _ _ h => h) (Or.inl ⟨by kernel_rfl, ?_⟩) h0 ?_
          · intro v hv
            clear hv
            go_simp
          (try simp only [Act.put, List.setIfInBounds_toArray, List.set_cons_zero, List.set_cons_succ])
          refine wpAnyH_take (i := 17) (v := .int .i64 E) rfl (by kernel_rfl) (by kernel_rfl) (by kernel_rfl) (fun _ _ _ h => h) (Or.inl ⟨by kernel_rfl, ?_⟩) h0 ?_
          · intro v hv
            have k8 := hv.cell 8
            simp at k8
            clear hv
            go_simp
          (try simp only [Act.put, List.setIfInBounds_toArray, List.set_cons_zero, List.set_cons_succ])
          refine wpAnyH_take (i := 18) (v := .bool DZ) rfl (by kernel_rfl) (by kernel_rfl) (by kernel_rfl) (fun _ _ _ h => h) (Or.inl ⟨by kernel_rfl, ?_⟩) h0 ?_
          · intro v hv
            clear hv
            go_simp
            exact HDZ.out
          (try simp only [Act.put, List.setIfInBounds_toArray, List.set_cons_zero, List.set_cons_succ])
          refine wpAnyH_take (i := 19) (v := .bool DZ) rfl (by kernel_rfl) (by kernel_rfl) (by kernel_rfl) (fun _ _ _ h => h) (Or.inl ⟨by kernel_rfl, ?_⟩) h0 ?_
          · intro v hv
            clear hv
            go_simp
          (try simp only [Act.put, List.setIfInBounds_toArray, List.set_cons_zero, List.set_cons_succ])
          refine wpAnyH_take (i := 20) (v := .bool true) rfl (by kernel_rfl) (by kernel_rfl) (by kernel_rfl) (fun _ _ _ h => h) (Or.inl ⟨by kernel_rfl, ?_⟩) h0 ?_
          · intro v hv
            clear hv
            go_simp
          (try simp only [Act.put, List.setIfInBounds_toArray, List.set_cons_zero, List.set_cons_succ])
          refine wpAnyH_take (i := 21) (v := .bool true) rfl (by kernel_rfl) (by kernel_rfl) (by kernel_rfl) (fun _ _ _ h => h) (Or.inl ⟨by kernel_rfl, ?_⟩) h0 ?_
          · intro v hv
            clear hv
            go_simp
          (try simp only [Act.put, List.setIfInBounds_toArray, List.set_cons_zero, List.set_cons_succ])
          refine wpAnyH_take (i := 22) (v := .bool true) rfl (by kernel_rfl) (by kernel_rfl) (by kernel_rfl) (fun _ _ _ h => h) (Or.inl ⟨by kernel_rfl, ?_⟩) h0 ?_
          · intro v hv
            clear hv
            go_simp
          (try simp only [Act.put, List.setIfInBounds_toArray, List.set_cons_zero, List.set_cons_succ])
          refine wpAnyH_take (i := 23) (v := .pointer (some ⟨b, 0, none⟩)) rfl (by kernel_rfl) (by kernel_rfl) (by kernel_rfl) (fun _ _ _ h => h) (Or.inl ⟨by kernel_rfl, ?_⟩) h0 ?_
          · intro v hv
            clear hv
            go_simp
          (try simp only [Act.put, List.setIfInBounds_toArray, List.set_cons_zero, List.set_cons_succ])
          refine wpAnyH_take (i := 25) (v := .pointer (some ⟨w4.heap.size, 0, none⟩)) rfl (by kernel_rfl) (by kernel_rfl) (by kernel_rfl) (fun _ _ _ h => h) (Or.inl ⟨by kernel_rfl, ?_⟩) h0 ?_
          · intro v hv
            clear hv
            go_simp
          (try simp only [Act.put, List.setIfInBounds_toArray, List.set_cons_zero, List.set_cons_succ])
          refine wpAnyH_take (i := 26) (v := .agg #[.string qm, .string qt, .int .i64 qk, .int .i64 qn, .string qr, .slice p4 qf.length c4]) rfl (by kernel_rfl) (by kernel_rfl) (by kernel_rfl) (fun _ _ _ h => h) (Or.inl ⟨by kernel_rfl, ?_⟩) h0 ?_
          · intro v hv
            have k0 := hv.cell 0
            have k1 := hv.cell 1
            have k2 := hv.cell 2
            have k3 := hv.cell 3
            have k4 := hv.cell 4
            have k5 := hv.cell 5
            simp at k0 k1 k2 k3 k4 k5
            clear hv
            go_simp
          (try simp only [Act.put, List.setIfInBounds_toArray, List.set_cons_zero, List.set_cons_succ])
          refine wpAnyH_ready (rs := [24]) (by kernel_rfl) (by simp) ?_
          refine AllReadyH.cons rfl (fun K hK => ?_) AllReadyH.nil
          go_simp
          refine HHC.out.mono ?_
          rintro e V1 ⟨f6, rfl, ho6, hb6⟩
          obtain ⟨p6, c6, rfl⟩ := own_slice ho6
          simp only [Hd.row] at ho6 ⊢
          have h1 := h0.call hb6
          have HF1 := Lib.hid (HF0.out.below hb6)
          have HF6 := Lib.hid ho6.flds
          have HP1 := Lib.hid (HP0.out.touch (P := fun _ => False) (Touch.of_below hb6) id id (fun _ _ => id))
          have HU1 := Lib.hid (HU0.out.trans (hb6.mono HU0.out.size))
          clear ho6 hb6 h0
          refine hK _ _ h1 (fun _ => ?_)
          clear hK K
          (try simp only [Act.put, List.setIfInBounds_toArray, List.set_cons_zero, List.set_cons_succ])
          refine wpAnyH_ready (rs := [27]) (by kernel_rfl) (by simp) ?_
          refine AllReadyH.cons rfl (fun K hK => ?_) AllReadyH.nil
          go_simp
          refine (HSM.out _ _ _ HF6.out HF1.out HQL.out).mono ?_
          rintro e V2 ⟨rfl, hb7⟩
          have h2 := h1.call hb7
          have hbg := hbegun_any (HP1.out.touch (P := fun _ => False) (Touch.of_below hb7) id id (fun _ _ => id))
          rw [HI3.out.2.2.2] at hbg
          have HBC := Lib.hid hbg
          have HU2 := Lib.hid (HU1.out.trans (hb7.mono HU1.out.size))
          clear hb7 hbg h1
          refine hK _ _ h2 (fun _ => ?_)
          clear hK K
          (try simp only [Act.put, List.setIfInBounds_toArray, List.set_cons_zero, List.set_cons_succ])
          refine wpAnyH_take (i := 28) (v := .bool true) rfl (by kernel_rfl) (by kernel_rfl) (by kernel_rfl) (fun _ _ _ h => h) (Or.inl ⟨by kernel_rfl, ?_⟩) h2 ?_
          · intro v hv
            clear hv
            go_simp
          (try simp only [Act.put, List.setIfInBounds_toArray, List.set_cons_zero, List.set_cons_succ])
          refine wpAnyH_take (i := 29) (v := .bool true) rfl (by kernel_rfl) (by kernel_rfl) (by kernel_rfl) (fun _ _ _ h => h) (Or.inl ⟨by kernel_rfl, ?_⟩) h2 ?_
          · intro v hv
            clear hv
            go_simp
          (try simp only [Act.put, List.setIfInBounds_toArray, List.set_cons_zero, List.set_cons_succ])
          refine wpAnyH_take (i := 30) (v := .pointer (some ⟨b, 0, none⟩)) rfl (by kernel_rfl) (by kernel_rfl) (by kernel_rfl) (fun _ _ _ h => h) (Or.inl ⟨by kernel_rfl, ?_⟩) h2 ?_
          · intro v hv
            clear hv
            go_simp
          (try simp only [Act.put, List.setIfInBounds_toArray, List.set_cons_zero, List.set_cons_succ])
          refine wpAnyH_take (i := 32) (v := .pointer (some ⟨w4.heap.size, 9, none⟩)) rfl (by kernel_rfl) (by kernel_rfl) (by kernel_rfl) (fun _ _ _ h => h) (Or.inl ⟨by kernel_rfl, ?_⟩) h2 ?_
          · intro v hv
            clear hv
            go_simp
          (try simp only [Act.put, List.setIfInBounds_toArray, List.set_cons_zero, List.set_cons_succ])
          refine wpAnyH_take (i := 33) (v := .bool BG) rfl (by kernel_rfl) (by kernel_rfl) (by kernel_rfl) (fun _ _ _ h => h) (Or.inl ⟨by kernel_rfl, ?_⟩) h2 ?_
          · intro v hv
            have k9 := hv.cell 9
            simp at k9
            clear hv
            go_simp
          (try simp only [Act.put, List.setIfInBounds_toArray, List.set_cons_zero, List.set_cons_succ])
          refine wpAnyH_ready (rs := [31]) (by kernel_rfl) (by simp) ?_
          refine AllReadyH.cons rfl (fun K hK => ?_) AllReadyH.nil
          go_simp
          refine HBC.out.mono ?_
          rintro e V3 ⟨rfl, h3⟩
          subst h3
          refine hK _ _ h2 (fun _ => ?_)
          clear hK K
          (try simp only [Act.put, List.setIfInBounds_toArray, List.set_cons_zero, List.set_cons_succ])
          refine wpAnyH_take (i := 34) (v := .bool true) rfl (by kernel_rfl) (by kernel_rfl) (by kernel_rfl) (fun _ _ _ h => h) (Or.inl ⟨by kernel_rfl, ?_⟩) h2 ?_
          · intro v hv
            clear hv
            go_simp
          (try simp only [Act.put, List.setIfInBounds_toArray, List.set_cons_zero, List.set_cons_succ])
          refine wpAnyH_take (i := 35) (v := .bool true) rfl (by kernel_rfl) (by kernel_rfl) (by kernel_rfl) (fun _ _ _ h => h) (Or.inl ⟨by kernel_rfl, ?_⟩) h2 ?_
          · intro v hv
            clear hv
            go_simp
          (try simp only [Act.put, List.setIfInBounds_toArray, List.set_cons_zero, List.set_cons_succ])
          refine wpAnyH_take (i := 36) (v := .bool true) rfl (by kernel_rfl) (by kernel_rfl) (by kernel_rfl) (fun _ _ _ h => h) (Or.inl ⟨by kernel_rfl, ?_⟩) h2 ?_
          · intro v hv
            clear hv
            go_simp
          (try simp only [Act.put, List.setIfInBounds_toArray, List.set_cons_zero, List.set_cons_succ])
          refine wpAnyH_ready (rs := [37]) (by kernel_rfl) (by simp) ?_
          refine AllReadyH.cons rfl (fun K hK => ?_) AllReadyH.nil
          go_simp
          refine (HLV.out _ (mx_below HM.out HU2.out)).mono ?_
          rintro e V3 ⟨rfl, hb9⟩
          have h3 := h2.call hb9
          have HU3 := Lib.hid (HU2.out.trans (hb9.mono HU2.out.size))
          clear hb9 h2
          refine hK _ _ h3 (fun _ => ?_)
          clear hK K
          (try simp only [Act.put, List.setIfInBounds_toArray, List.set_cons_zero, List.set_cons_succ])
          refine wpAnyH_take (i := 38) (v := .bool true) rfl (by kernel_rfl) (by kernel_rfl) (by kernel_rfl) (fun _ _ _ h => h) (Or.inl ⟨by kernel_rfl, ?_⟩) h3 ?_
          · intro v hv
            clear hv
            go_simp
          (try simp only [Act.put, List.setIfInBounds_toArray, List.set_cons_zero, List.set_cons_succ])
          refine wpAnyH_ready (rs := [39]) (by kernel_rfl) (by simp) ?_
          refine AllReadyH.cons rfl (fun K hK => ?_) AllReadyH.nil
          go_simp
          refine hK _ _ h3 (fun _ => ?_)
          clear hK K
          (try simp only [Act.put, List.setIfInBounds_toArray, List.set_cons_zero, List.set_cons_succ])
          refine wpAnyH_done (by kernel_rfl) ?_ _
          go_wp2_with fail
          go_ret
          exact ⟨rfl, HU3.out⟩
end Go.Proofs.YtmoofcmmpemdcaaGreatDoor

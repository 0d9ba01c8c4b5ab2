/- (*clock.Clock).Tick, at any clock. -/
import Derived.Test.YtkcimbjgjamloaaTickMem
namespace Go.Proofs.Ytkcimbjgjamloaa
open Go.RowKit Go.Maps Clk Go.Sort Go.Lib
theorem info_int : (Try.prog.info? 3).map (fun i => (i.zero, i.size, i.bytes)) = some (some (.int .i64 0), 1, 8) := by kernel_rfl
section
variable {w : World} {g b n : Nat} {now : Int} {l : List Rw}
theorem tick_nil (a : Value) (w : World) : Calls Try.prog 24 #[.pointer none, a] w fun e w' => e = .returned (.slice none 0 0) ∧ w = w' := by
  go_enter Try.func24, Try.ntmps24
  go_wp2_with fail
  go_ret
  exact ⟨rfl, rfl⟩
set_option maxRecDepth 100000 in
theorem tick_any (h : Clock w g b n now l) (h1l : One l) (k : Int) (h1 : -1125899906842624 ≤ now) (h2 : now ≤ 1125899906842624) (hn : n ≤ 1000) :
    Calls Try.prog 24 #[.pointer (some ⟨g, 0, none⟩), .int .i64 k] w fun e w' => ∃ v, e = .returned v ∧ NumsB w.heap.size w' v (dueIds l (now + withinZ k)) ∧ Clock w' g b n (now + withinZ k) (rest l (now + withinZ k)) ∧ Touch (fun j => j = g ∨ j = b) w w' := by
  obtain ⟨i0, hi, hz0', hz1', hz2'⟩ := info_parts info_int
  have hw : ∀ W, Calls Try.prog 35 #[.int .i64 k] W fun e w' => e = .returned (.int .i64 (withinZ k)) ∧ w' = W := fun W => (within_any k W).mono fun _ _ ⟨a, c⟩ => ⟨a, c.symm⟩
  have hz := withinZ_range k
  obtain ⟨t, ht⟩ : ∃ t, t = withinZ k := ⟨_, rfl⟩
  rw [← ht] at hw hz ⊢
  have HW := Lib.hid hw
  have q0 : w.cell? ⟨g, 0, none⟩ = some (.int .i64 now) := h.c.cell 0
  have q1 : w.cell? ⟨g, 1, none⟩ = some (.map (some b)) := h.c.cell 1
  have f0 : w.frozen? ⟨g, 0, none⟩ = false := h.c.froz 0
  have hlt := h.c.lt
  have H := Lib.hid h
  have hz0 := hz.1
  have hz1 := hz.2
  have hsum : IntKind.i64.wrap (now + t) = now + t := IntWalk.i64_in _ (by omega)
  have H1L := Lib.hid h1l
  have hmm := @run_makeMap Try.prog
  clear h hw ht hz h1l
  go_enter Try.func24, Try.ntmps24
  go_wp2_with fail
  refine wp_region_drew_tail 9 (by kernel_rfl) (by kernel_rfl) ?_
  simp only [List.take_succ_cons, List.take_zero, List.drop_succ_cons, List.drop_zero]
  repeat go_big_quiet_step ((go_at_call 35; exact Calls.quiet_of_same (HW.out _)))
  refine wpQuiet_nil ?_
  rintro _ ⟨n1q, rfl⟩
  clear hsum
  obtain ⟨W0, hW0⟩ : ∃ W, W = w.drewN n1q := ⟨_, rfl⟩
  rw [← hW0]
  have hws : w.heap.size ≤ W0.heap.size := by rw [hW0]; exact Nat.le_refl _
  have HWS := Lib.hid hws
  clear hws
  have h0 : Clock W0 g b n now l := by rw [hW0]; exact H.out.drewN n1q
  have hT0 : Touch (fun j => j = g ∨ j = b) w W0 := by rw [hW0]; exact (Touch.refl _ w).drewN n1q
  have q0' : W0.cell? ⟨g, 0, none⟩ = some (.int .i64 now) := h0.c.cell 0
  have q1' : W0.cell? ⟨g, 1, none⟩ = some (.map (some b)) := h0.c.cell 1
  have f0' : W0.frozen? ⟨g, 0, none⟩ = false := h0.c.froz 0
  have hlt' := h0.c.lt
  have hltb := h0.lt
  obtain ⟨D, hD, hr⟩ := h0.m
  have HR := Lib.hid hr
  have hD1 : (W0.setCell ⟨g, 0, none⟩ (.int .i64 (now + t))).ownsMap Try.prog 3 (plainElem Try.prog 3) b n D := hD.setCell (Ne.symm h0.ne) _
  have HD1 := Lib.hid hD1
  have H0 := Lib.hid h0
  have HT0 := Lib.hid hT0
  clear q0 q1 f0 hlt H hW0 h0 hT0 hD hr hD1 HW
  go_wp2_with (at_range; refine wpList_range_own _ rfl _ 66 rfl 3 3 mlaw Try.underlying66 _ b n _ rfl ((HD1.out.alloc _).alloc _) ?_; intro w0 hrg0 hg0 hs0; have HRG0 := Lib.hid hrg0; have HG0 := Lib.hid hg0; have HS0 := Lib.hid hs0; clear hrg0 hg0 hs0)
  go_frame
  obtain ⟨nw, hnw⟩ : ∃ x, x = now + t := ⟨_, rfl⟩
  obtain ⟨W1, hW1⟩ : ∃ W, W = W0.setCell ⟨g, 0, none⟩ (.int .i64 (now + t)) := ⟨_, rfl⟩
  have hsz1 : W1.heap.size = W0.heap.size := by rw [hW1]; simp [World.setCell]
  have hR : (((W0.setCell ⟨g, 0, none⟩ (.int .i64 (now + t))).alloc (.map #[] 0)).alloc (.cells #[.map (some W0.heap.size)] 66)).heap.size = W0.heap.size + 2 := by simp [World.setCell]
  have hS0 : TickS W0 g b n nw D (Maps.has D) (Maps.size D) 0 (.map []) [] (.slice none 0 0) w0 := by
    have hrg := HRG0.out
    have hg0 := HG0.out
    have hs0 := HS0.out
    rw [hR] at hrg hs0
    rw [← hW1] at hg0
    have z2 : (W1.alloc (.map #[] 0)).heap.size = W0.heap.size + 1 := by simp [hsz1]
    have hc1 : Blk W1 g #[.int .i64 nw, .map (some b)] 68 := by
      rw [hW1, hnw]
      have := H0.out.c.set 0 (.int .i64 (now + t))
      simp at this
      exact this
    refine ⟨hrg, blk_but ((hc1.alloc _).alloc _) hg0 (by simp), blk_but (Blk.new' z2.symm) hg0 (by simp), ?_, World.ownsRow_nil _ _ _ _, by omega, ?_, hlt', hltb⟩
    · have h1 := World.ownsMap_made (H := Unit) W1 Try.prog 3 (plainElem Try.prog 3)
      rw [hsz1] at h1
      exact (h1.alloc _).kept hg0 (by simp)
    · have hT1 : Touch (fun j => j = g) W0 W1 := by rw [hW1]; exact (Touch.refl (fun j => j = g) W0).setCell (p := ⟨g, 0, none⟩) rfl _
      exact TickS.touch ((hT1.alloc _).alloc _) hg0 (fun j hj => by cases hj)
  have hM0 := Met.start HR.out nw
  have hcnt0 : ([] : List Int).length + Maps.size D ≤ n := by have := HD1.out.size_le; simpa using this
  have HS0 := Lib.hid (And.intro hS0 (And.intro hM0 hcnt0))
  rw [hR]
  have HR0 := HR
  rw [← hnw]
  have HNW := Lib.hid hnw
  clear hnw HRG0 HG0 hS0 hM0 hcnt0 hR hW1 hsz1 q0' q1' f0' hlt' hltb HD1
  go_loopw [5] (fun v wr => ∃ (left : Lit → Bool) (cnt m : Nat) (E : DataW Unit) (ks : List Int), TickS W0 g b n nw D left cnt m E ks v wr ∧ Met l nw left ks E ∧ ks.length + cnt ≤ n ∧ m ≤ ks.length) (fun _ wr => wr.rangeLeft b (W0.heap.size + 2))
  case atStart => exact ⟨_, _, 0, _, [], HS0.out.1, HS0.out.2.1, HS0.out.2.2, Nat.le_refl _⟩
  case round =>
    obtain ⟨left, cnt, m, E, ks, hS, hM, hcnt, hmk⟩ := hrel
    have HS := Lib.hid hS
    have HM := Lib.hid hM
    clear hS hM
    go_wp2_with (at_next; refine wpList_next_ranges_ii _ rfl _ rfl 3 3 .i64 .i64 mlaw Try.underlying3 Try.underlying3 b (W0.heap.size + 2) n _ _ _ rfl HS.out.rg ?_ ?_)
    · intro _ hl0
      have HL0 := Lib.hid hl0
      clear hl0
      have hlen := due_length HM.out HL0.out H1L.out
      have hwf := HM.out.wf_due HL0.out H1L.out
      have hdrop := drop_due H1L.out nw
      obtain ⟨ids, hids⟩ : ∃ x, x = dueIds l nw := ⟨_, rfl⟩
      have hsort := sort_any HS.out HM.out HL0.out H1L.out (by omega)
      rw [← hids] at hlen hwf hdrop hsort
      have HIDS := Lib.hid hids
      have hid1 : ids.length ≤ 1000 := by omega
      have HWF := Lib.hid hwf
      have HDR := Lib.hid hdrop
      have HSO := Lib.hid hsort
      clear hids hlen hwf hdrop hsort HM HL0 hcnt hmk
      go_wp2_with fail
      refine HSO.out.mono ?_
      rintro e w2 ⟨rfl, hnb, ht⟩
      obtain ⟨p, cp, hv, hp0, hcells⟩ := hnb
      have HP0 := Lib.hid hp0
      clear hp0
      have hc2 : Blk w2 g #[.int .i64 nw, .map (some b)] 68 := HS.out.c.touch ht (by have := HS.out.gl; omega)
      have hm2 : w2.ownsMap Try.prog 3 (plainElem Try.prog 3) b n D := own_heap HS.out.rg.owns (ht.block b HS.out.rg.owns.lt (by have := HS.out.bl; omega))
      have hu2 : Touch (fun j => j = g ∨ j = b ∨ W0.heap.size ≤ j) W0 w2 := (HS.out.u.mono (fun _ _ h => Or.inl h)).trans (ht.mono (fun _ _ h => Or.inr (Or.inr (by omega))))
      have HC2 := Lib.hid (And.intro hc2 (And.intro hm2 (And.intro hu2 hcells)))
      have HSB := Lib.hid (And.intro HS.out.gl HS.out.bl)
      have hv' := hv
      subst hv'
      clear hv hcells hc2 hm2 hu2 ht HS HSO
      go_wp2_with fail
      go_loopw [51] (fun i wx => ∃ j : Nat, j ≤ ids.length ∧ i = .int .i64 j ∧ Blk wx g #[.int .i64 nw, .map (some b)] 68 ∧ (∃ D', wx.ownsMap Try.prog 3 (plainElem Try.prog 3) b n D' ∧ Reads D' (drop l (ids.take j))) ∧ Touch (fun j => j = g ∨ j = b ∨ W0.heap.size ≤ j) W0 wx ∧ ∀ i (h : i < ids.length), ∃ bb off, W0.heap.size + 3 ≤ bb ∧ p = some ⟨bb, off, none⟩ ∧ wx.cell? ⟨bb, off + i, none⟩ = some (.int .i64 ids[i])) (fun i _ => ids.length - (intOf i).toNat)
      case atStart => exact ⟨0, Nat.zero_le _, rfl, HC2.out.1, ⟨D, HC2.out.2.1, by rw [List.take_zero, drop_nil]; exact HR.out⟩, HC2.out.2.2.1, HC2.out.2.2.2⟩
      case round =>
        obtain ⟨j, hj, rfl, hc, ⟨D', hD', hr'⟩, hu, hcells⟩ := hrel
        have HX := Lib.hid (And.intro hc (And.intro hD' (And.intro hr' (And.intro hu hcells))))
        by_cases hjl : j < ids.length
        · obtain ⟨bb, off, hB, hp, hcell⟩ := hcells j hjl
          subst hp
          obtain ⟨id, hid⟩ : ∃ x, x = ids[j] := ⟨_, rfl⟩
          rw [← hid] at hcell
          have HW1 := Lib.hid (show (Lit.int .i64 id).wf = true by rw [hid]; exact HWF.out _ (List.getElem_mem hjl))
          have HID : Hid (ids.take (j + 1) = ids.take j ++ [id]) := by
            show ids.take (j + 1) = ids.take j ++ [id]
            rw [List.take_succ_eq_append_getElem hjl, hid]
          have q1 : wr.cell? ⟨g, 1, none⟩ = some (.map (some b)) := hc.cell 1
          have hji : (j : Int) < (ids.length : Int) := by omega
          have hj0 : (0 : Int) ≤ (j : Int) := by omega
          clear hc hD' hr' hu hcells hid
          go_wp2_with (at_delete; refine wpList_delete_own _ rfl _ _ 66 3 rfl 3 mlaw Try.underlying66 _ b n _ rfl HX.out.2.1 _ _ rfl (keyOf_int_mk Try.underlying3 HW1.out) ?_; intro w3 hown3 hturn3; have HO3 := Lib.hid (And.intro hown3 hturn3); clear hown3 hturn3)
          have ht3 : Touch (fun j => j = b) wr w3 := Touch.of_grown HO3.out.2.grown (fun k hk => by cases hk; rfl)
          have hgb : g ≠ b := by
            rintro rfl
            obtain ⟨es, cl, hb, _⟩ := HX.out.2.1
            have := HX.out.1
            unfold Blk at this
            rw [hb] at this
            cases this
          have HT3 := Lib.hid ht3
          clear ht3
          go_roundw
          case rel =>
            refine ⟨j + 1, by omega, by go_num, HX.out.1.touch HT3.out hgb, ⟨_, HO3.out.1, by rw [HID.out, ← drop_snoc]; exact HX.out.2.2.1.del id⟩, HX.out.2.2.2.1.trans (HT3.out.mono (fun _ _ h => Or.inr (Or.inl h))), fun i hi => ?_⟩
            obtain ⟨bb', off', h1', h2', h3'⟩ := HX.out.2.2.2.2 i hi
            refine ⟨bb', off', h1', h2', (World.cell?_of_block (HT3.out.block bb' (World.block_lt_of_cell? wr _ h3') (fun e => ?_))).trans h3'⟩
            have := HSB.out.2
            omega
          case measure => simp [intOf]; omega
        · have hje : j = ids.length := by omega
          subst hje
          clear hc hD' hr' hu hcells
          go_wp2_with fail
          go_ret
          have hrr := HX.out.2.2.1
          rw [List.take_length, HDR.out] at hrr
          rw [← HNW.out, ← HIDS.out]
          refine ⟨_, rfl, ⟨p, cp, rfl, HP0.out, fun i hi => let ⟨bb, off, h1, h2, h3⟩ := HX.out.2.2.2.2 i hi; ⟨bb, off, by have := HWS.out; omega, h2, h3⟩⟩, ⟨HX.out.1, _, HX.out.2.1, hrr⟩, HT0.out.trans (HX.out.2.2.2.1.mono (fun k hk h => ?_))⟩
          rcases h with h | h | h
          · exact Or.inl h
          · exact Or.inr h
          · exact absurd hk (by omega)
    · intro x c w1 cnt1 hwx hwc hlx hat hrg1 hlt hg1 hs1 hen
      have hS1 := HS.out.next hrg1 hg1
      have hlc := HR.out.at hat
      have HS1 := Lib.hid hS1
      have HLC := Lib.hid hlc
      have HX := Lib.hid (And.intro hwx (And.intro hwc hlx))
      have q0 : w1.cell? ⟨g, 0, none⟩ = some (.int .i64 nw) := hS1.c.cell 0
      have qv : w1.cell? ⟨W0.heap.size + 1, 0, none⟩ = some (.map (some W0.heap.size)) := hS1.vr.cell 0
      have hltc : cnt1 < cnt := hlt
      clear hS1 hlc hwx hwc hlx hat hrg1 hg1 hs1 hlt
      by_cases hd : c ≤ nw
      · go_wp2_with (first
          | (at_mapUpdate; refine wpList_mapUpdate_own _ rfl _ _ _ 66 rfl 3 3 mlaw Try.underlying66 _ W0.heap.size m _ rfl HS1.out.am (by unfold maxLen; omega) _ _ _ rfl rfl (keyOf_int_mk Try.underlying3 HX.out.1) _ [] (plainElem_int Try.underlying3 HX.out.2.1) ?_; intro w2 hown2 hgrow2; have HS2 := Lib.hid (HS1.out.put hown2 hgrow2); clear hown2 hgrow2)
          | (at_builtin; refine wpList_append_own _ rfl _ _ 49 rfl (W0.heap.size + 3) 3 i0 (.int .i64 0) 1 8 Try.underlying49 hi hz0' hz1' hz2' rfl (by decide) _ _ _ rfl (HS2.out.ow.alloc _) ⟨w2.heap.size, 0, none⟩ 1 1 [.int .i64 x] rfl rfl ?c1 ?c2 ?c3 ?c4 ?c5 ?_))
        case c1 =>
          intro j u hj
          match j, hj with
          | 0, hj => simp at hj; subst hj; simp [Addr.add]
        case c2 => intro u hu; simp at hu; subst hu; rfl
        case c3 => unfold maxLen; omega
        case c4 => omega
        case c5 => have := HS2.out.sz; simp; omega
        intro v' w3 hown3 hgrow3 _
        have HS3 := Lib.hid (HS2.out.app x hown3 hgrow3)
        clear hown3 hgrow3
        go_wp2_with fail
        go_roundw
        case rel => exact ⟨_, cnt1, m + 1, _, ks ++ [x], HS3.out, HM.out.due HS.out.am.isMap HX.out.2.2 HLC.out hd HX.out.1, by simp; omega, by simp; omega⟩
        case measure => rw [HS3.out.rg.left_eq, HS.out.rg.left_eq]; exact hltc
      · go_wp2_with fail
        go_roundw
        case rel => exact ⟨_, cnt1, m, _, ks, HS1.out, HM.out.not HX.out.2.2 HLC.out hd, by omega, hmk⟩
        case measure => rw [HS1.out.rg.left_eq, HS.out.rg.left_eq]; exact hltc
end
end Go.Proofs.Ytkcimbjgjamloaa

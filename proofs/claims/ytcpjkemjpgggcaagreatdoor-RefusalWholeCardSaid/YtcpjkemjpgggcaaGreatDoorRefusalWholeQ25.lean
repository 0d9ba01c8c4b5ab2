/- Texts packed for one claim, 25 of 45: LnsW LnFeed PaAt PLine PaOk PFeed HNew. -/
import Derived.Test.YtcpjkemjpgggcaaGreatDoorRefusalWholeQ24
import Derived.Lib.BufferRead
import Derived.Test.YtcpjkemjpgggcaaGreatDoorRefusalWholeQ2
set_option linter.unusedSimpArgs false
set_option linter.unusedVariables false
-- LnsW
namespace Go.Proofs.YtcpjkemjpgggcaaGreatDoor
open Go.RowKit
set_option maxRecDepth 100000 in
theorem OwnB.conv {w : World} {B : Nat} {v : Value} {l : List UInt8} (h : OwnB w B v l) : (convert 80 9 v).run Tryz.prog w = .ok (.string (strL l)) w := by
  obtain ⟨_, h⟩ := h
  rcases h with ⟨rfl, h0⟩ | ⟨g, cap, cur, rfl, _, hg, k1, k2, k3, k4⟩
  · have : l = [] := List.eq_nil_of_length_eq_zero h0
    subst this
    exact Lib.run_convert_nil_bytes w 80 9 5 0 Tryz.underlying80 Tryz.underlying5 Tryz.underlying9
  · rw [Nat.mul_one] at k4
    have := run_convert_bytes_arg (P := Tryz.prog) w 80 5 Tryz.underlying80 Tryz.underlying5 g 0 l.length cap (l.map fun b : UInt8 => (b.toNat : Int)) (by simp) (fun i hi => by
      have a : (l.map fun b => Value.int .u8 b.toNat)[i]? = some (.int .u8 l[i].toNat) := by rw [List.getElem?_map, List.getElem?_eq_getElem hi]; rfl
      rw [← k4, List.getElem?_take, if_pos (by omega), Array.getElem?_toList] at a
      simp only [World.cell?, hg, Nat.zero_add]
      rw [a, List.getD_eq_getElem?_getD, List.getElem?_map, List.getElem?_eq_getElem hi]
      rfl) 9 Tryz.underlying9
    rw [this]
    congr 2
    unfold strOfNums strL
    simp [Function.comp_def]
set_option maxRecDepth 100000 in
theorem OwnB.cut {w : World} {B : Nat} {v : Value} {l : List UInt8} (h : OwnB w B v l) : ∃ p0 c0, (Value.slice p0 0 c0).ownBlock = v.ownBlock ∧ OwnB w B (.slice p0 0 c0) [] ∧ ∀ W, (Instr.slice 80 v none (some (.int .i64 0)) none).run Tryz.prog W = .ok (.slice p0 0 c0) W := by
  obtain ⟨h1, h⟩ := h
  obtain ⟨i0, hi, _⟩ := info_parts info_byte
  rcases h with ⟨rfl, h0⟩ | ⟨g, cap, cur, rfl, hB, hg, k1, k2, k3, k4⟩
  · refine ⟨none, 0, rfl, OwnB.start w B, fun W => ?_⟩
    rw [run_slice_h W 80 none 0 0 Tryz.underlying80 .i64 0 (by decide) (by decide)]
    rw [run_sizeOf (t := Tryz.prog.elem 80) (i := i0) W hi]
    rfl
  · refine ⟨some ⟨g, 0, none⟩, cap, rfl, ⟨by simp, Or.inr ⟨g, cap, cur, rfl, hB, hg, Nat.zero_le _, k2, k3, rfl⟩⟩, fun W => ?_⟩
    rw [run_slice_h W 80 (some ⟨g, 0, none⟩) l.length cap Tryz.underlying80 .i64 0 (by decide) (by omega)]
    rw [run_sizeOf (t := Tryz.prog.elem 80) (i := i0) W hi]
    simp only [Result.andThen]
    unfold sliced
    simp [Addr.add]
theorem LnAt.drew {w : World} {g B : Nat} {v : Value} {s : LnS} (h : LnAt w g B v s) : LnAt w.drew g B v s := ⟨h.b.drew, h.o, h.lt, h.sz⟩
set_option maxRecDepth 100000 in
theorem lnew_nil (n : Int) (h : n < 0 ∨ 65536 < n) (w : World) : Calls Tryz.prog 48 #[.int .i64 n] w fun e w' => e = .returned (.pointer none) ∧ w' = w := by
  by_cases h0 : n < 0
  · have d0 : decide (n < 0) = true := decide_eq_true h0
    clear h
    go_enter Tryz.func48, Tryz.ntmps48
    go_wp2_with fail
    go_ret
    exact ⟨rfl, rfl⟩
  · have d0 : decide (n < 0) = false := decide_eq_false h0
    have d1 : decide (n > 65536) = true := decide_eq_true (by omega)
    clear h h0
    go_enter Tryz.func48, Tryz.ntmps48
    go_wp2_with fail
    go_ret
    exact ⟨rfl, rfl⟩
def ln0 (n : Int) : LnS := ⟨n, 0, [], false, false, false, 0⟩
set_option maxRecDepth 100000 in
theorem lnew_any (n : Int) (h0 : 0 ≤ n) (h1 : n ≤ 65536) (w : World) : Calls Tryz.prog 48 #[.int .i64 n] w fun e w' => e = .returned (.pointer (some ⟨w.heap.size, 0, none⟩)) ∧ w' = w.alloc (.cells ((ln0 n).row (.slice none 0 0)) 123) := by
  have d0 : decide (n < 0) = false := decide_eq_false (by omega)
  have d1 : decide (n > 65536) = false := decide_eq_false (by omega)
  clear h0 h1
  go_enter Tryz.func48, Tryz.ntmps48
  go_wp2_with fail
  go_ret
  exact ⟨rfl, rfl⟩
set_option maxRecDepth 100000 in
theorem lwhole_any {w : World} {g B : Nat} {v : Value} {s : LnS} (h : LnAt w g B v s) : Calls Tryz.prog 138 #[.pointer (some ⟨g, 0, none⟩)] w fun e w' => e = .returned (.bool s.whole) ∧ w = w' := by
  have a5 : w.cell? ⟨g, 5, none⟩ = some (.bool s.whole) := h.b.cell 5
  clear h
  go_enter Tryz.func138, Tryz.ntmps138
  go_wp2_with fail
  go_ret
  exact ⟨rfl, rfl⟩
set_option maxRecDepth 100000 in
theorem lline_any {w : World} {g B : Nat} {v : Value} {s : LnS} (h : LnAt w g B v s) (hw : s.whole = true) : Calls Tryz.prog 98 #[.pointer (some ⟨g, 0, none⟩)] w fun e w' => e = .returned (.string (strL s.line)) ∧
    ∃ v', LnAt w' g B v' { s with line := [], whole := false } ∧ Touch (fun j => j = g) w w' ∧ v'.ownBlock = v.ownBlock := by
  obtain ⟨L, S, Ln, Wi, Tu, Wh, E⟩ := s
  simp only at hw
  subst hw
  obtain ⟨p0, c0, hv0, ho0, hsl⟩ := h.o.cut
  have a2 : w.cell? ⟨g, 2, none⟩ = some v := h.b.cell 2
  have f2 : w.frozen? ⟨g, 2, none⟩ = false := h.b.froz 2
  have a5 : w.cell? ⟨g, 5, none⟩ = some (.bool true) := h.b.cell 5
  have f5 : w.frozen? ⟨g, 5, none⟩ = false := h.b.froz 5
  have hcv := h.o.conv
  have H := Lib.hid h
  have HW := Lib.hid (lwhole_any h)
  have HV := Lib.hid hv0
  have HO := Lib.hid ho0
  clear h hv0 ho0
  go_enter Tryz.func98, Tryz.ntmps98
  go_wp2_with (go_at_call 138; refine HW.out.mono ?_; rintro e1 w1 ⟨rfl, rfl⟩)
  go_ret
  refine ⟨rfl, .slice p0 0 c0, ⟨(H.out.b.set 2 (.slice p0 0 c0)).set 5 (.bool false), own_touch HO.out (((Touch.refl (fun j => j = g) w).setCell (p := ⟨g, 2, none⟩) rfl (.slice p0 0 c0)).setCell (p := ⟨g, 5, none⟩) rfl (.bool false)) (fun k hk e => absurd (H.out.o.lt k (HV.out ▸ hk)).1 (by have := H.out.lt; omega)), H.out.lt, ?_⟩, ((Touch.refl (fun j => j = g) w).setCell (p := ⟨g, 2, none⟩) rfl (.slice p0 0 c0)).setCell (p := ⟨g, 5, none⟩) rfl (.bool false), HV.out⟩
  have := (((Touch.refl (fun j => j = g) w).setCell (p := ⟨g, 2, none⟩) rfl (.slice p0 0 c0)).setCell (p := ⟨g, 5, none⟩) rfl (.bool false)).size
  exact Nat.le_trans H.out.sz this
end Go.Proofs.YtcpjkemjpgggcaaGreatDoor
-- LnFeed
namespace Go.Proofs.YtcpjkemjpgggcaaGreatDoor
open Go.RowKit
/-- How much Lines may hold. -/
structure LnOk (s : LnS) : Prop where
  l0 : 0 ≤ s.left
  s0 : 0 ≤ s.spent
  m : s.left + s.spent ≤ 65536
  t : (s.line.length : Int) ≤ s.spent
theorem seeP_ok {s : LnS} (h : LnOk s) (c : UInt8) : LnOk (seeP s c).1 := by
  obtain ⟨h1, h2, h3, h4⟩ := h
  unfold seeP
  repeat' split
  all_goals first
    | exact ⟨h1, h2, h3, h4⟩
    | (constructor <;> simp <;> omega)
theorem lnOk_e {s : LnS} (h : LnOk s) (e : Int) : LnOk { s with e := e } := ⟨h.l0, h.s0, h.m, h.t⟩
theorem lnFeed_ok : ∀ (l : List UInt8) (s : LnS), LnOk s → LnOk (lnFeed l s).1
  | [], s, h => h
  | c :: r, s, h => by
    rw [lnFeed]
    split
    · exact h
    split
    · exact lnFeed_ok r _ (lnOk_e (seeP_ok h c) 0)
    · exact lnOk_e (seeP_ok h c) _
theorem LnAt.setE {w : World} {g B : Nat} {v : Value} {s : LnS} (h : LnAt w g B v s) (e : Int) : LnAt (w.setCell ⟨g, 6, none⟩ (.int .i64 e)) g B v { s with e := e } := by
  have T := (Touch.refl (fun j => j = g) w).setCell (p := ⟨g, 6, none⟩) rfl (.int .i64 e)
  exact ⟨h.b.set 6 (.int .i64 e), own_touch h.o T (fun k hk e => absurd (h.o.lt k hk).1 (by have := h.lt; omega)), h.lt, Nat.le_trans h.sz T.size⟩
theorem LnAt.drewN {w : World} {g B : Nat} {v : Value} {s : LnS} (h : LnAt w g B v s) (n : Nat) : LnAt (w.drewN n) g B v s := ⟨h.b.drewN n, h.o, h.lt, h.sz⟩
/-- Whether no error is held. -/
def eM (g : Nat) (w : World) : Nat := match w.cell? ⟨g, 6, none⟩ with
  | some (.int _ e) => if e = 0 then 1 else 0
  | _ => 0
theorem eM_1 {g : Nat} {w : World} (h : w.cell? ⟨g, 6, none⟩ = some (.int .i64 0)) : eM g w = 1 := by unfold eM; rw [h]; rfl
theorem eM_0 {g : Nat} {w : World} {e : Int} (h : w.cell? ⟨g, 6, none⟩ = some (.int .i64 e)) (he : e ≠ 0) : eM g w = 0 := by
  unfold eM
  rw [h]
  exact if_neg he
set_option maxRecDepth 100000 in
set_option maxHeartbeats 2000000 in
theorem lfeed_any {w : World} {g B : Nat} {v : Value} {s : LnS} (h : LnAt w g B v s) (hs : LnOk s) (S : ByteArray) (hS : S.size ≤ 1000000) :
    Calls Tryz.prog 137 #[.pointer (some ⟨g, 0, none⟩), .string S] w fun e w' => e = .returned (.tuple #[.int .i64 (lnFeed S.data.toList s).2, .int .i64 (lnFeed S.data.toList s).1.e]) ∧
      ∃ v', LnAt w' g B v' (lnFeed S.data.toList s).1 ∧ Touch (LnP g v) w w' ∧ (v'.ownBlock = v.ownBlock ∨ ∀ k, v'.ownBlock = some k → w.heap.size ≤ k) := by
  obtain ⟨R, hR⟩ : ∃ R, R = lnFeed S.data.toList s := ⟨_, rfl⟩
  rw [← hR]
  have H := Lib.hid h
  have HR := Lib.hid hR
  have HS := Lib.hid hs
  have hn : S.data.toList.length = S.size := (Lib.size_eq S).symm
  have HN := Lib.hid hn
  have HB := Lib.hid (h.o.lt)
  clear h hR hs hn
  go_enter Tryz.func137, Tryz.ntmps137
  go_wp2_with fail
  go_loopw [4] (fun u4 wr => ∃ (k : Nat) (sk : LnS) (vk : Value), k ≤ S.size ∧ u4 = .int .i64 k ∧ LnAt wr g B vk sk ∧ LnOk sk ∧ R = ((lnFeed (S.data.toList.drop k) sk).1, k + (lnFeed (S.data.toList.drop k) sk).2) ∧ Touch (LnP g v) w wr ∧ (vk.ownBlock = v.ownBlock ∨ ∀ j, vk.ownBlock = some j → w.heap.size ≤ j)) (fun u4 wr => 2 * (S.size - (intOf u4).toNat) + eM g wr)
  case atStart => exact ⟨0, s, v, Nat.zero_le _, rfl, H.out, HS.out, by rw [HR.out, List.drop_zero, Nat.zero_add], Touch.refl _ _, Or.inl rfl⟩
  case round =>
    obtain ⟨k, sk, vk, hk, rfl, hat, hok, hpre, htc, hbl⟩ := hrel
    have HA := Lib.hid hat
    have HO := Lib.hid hok
    have HP := Lib.hid hpre
    have HT := Lib.hid htc
    have HL := Lib.hid hbl
    clear hpre htc hbl
    obtain ⟨WH, hWH⟩ : ∃ b, b = sk.whole := ⟨_, rfl⟩
    obtain ⟨E, hE⟩ : ∃ b, b = sk.e := ⟨_, rfl⟩
    have a5 : wr.cell? ⟨g, 5, none⟩ = some (.bool WH) := by rw [hWH]; exact hat.b.cell 5
    have a6 : wr.cell? ⟨g, 6, none⟩ = some (.int .i64 E) := by rw [hE]; exact hat.b.cell 6
    have f6 : wr.frozen? ⟨g, 6, none⟩ = false := hat.b.froz 6
    have HW := Lib.hid hWH
    have HE := Lib.hid hE
    clear hWH hE hat hok
    by_cases hlt : k < S.size
    · have hk1 : decide ((k : Int) < (S.size : Int)) = true := decide_eq_true (by omega)
      cases WH with
      | true =>
        have hfin : R = (sk, k) := by rw [HP.out, lnFeed_stop _ _ (Or.inl HW.out.symm)]; rfl
        have HF := Lib.hid hfin
        clear hfin
        go_wp2_with fail
        refine wp_region_drewZ (by kernel_rfl) (by kernel_rfl) ?_
        repeat go_big_quiet_step (fail)
        refine wpQuiet_nil ?_
        rintro _ ⟨nq, rfl⟩
        go_wp2_with fail
        go_ret2
        exact ⟨by rw [HF.out, ← HE.out]; rfl, vk, by rw [HF.out]; exact HA.out.drewN nq, HT.out.drewN nq, HL.out⟩
      | false =>
        by_cases he : E = 0
        · subst he
          obtain ⟨c, hc⟩ : ∃ c, S.data.toList[k]? = some c := ⟨_, List.getElem?_eq_getElem (by have := HN.out; omega)⟩
          have hbt : bt S k = c.toNat := by
            unfold bt
            rw [dif_pos hlt]
            have : S.data.toList[k]? = some S[k] := by rw [List.getElem?_eq_getElem (by have := HN.out; omega)]; rfl
            rw [this] at hc
            injection hc with hc
            rw [hc]
          have hix : ∀ W : World, (Instr.index 9 (.string S) (.int .i64 (k : Int))).run Tryz.prog W = .ok (.int .u8 (bt S k)) W := index_bt S k hlt
          obtain ⟨x, hx⟩ : ∃ x : Int, x = bt S k := ⟨_, rfl⟩
          rw [← hx] at hix hbt
          obtain ⟨q, hq⟩ : ∃ q, q = seeP sk c := ⟨_, rfl⟩
          have hstep : lnFeed (S.data.toList.drop k) sk = if q.2 = 0 then ((lnFeed (S.data.toList.drop (k + 1)) { q.1 with e := 0 }).1, (lnFeed (S.data.toList.drop (k + 1)) { q.1 with e := 0 }).2 + 1) else ({ q.1 with e := q.2 }, 0) := by
            have hkl : k < S.data.toList.length := by have := HN.out; omega
            have : S.data.toList[k] = c := by rw [List.getElem?_eq_getElem hkl] at hc; injection hc
            rw [List.drop_eq_getElem_cons hkl, this, lnFeed, if_neg (by rw [← HW.out, ← HE.out]; simp), ← hq]
          have HST := Lib.hid hstep
          have HQ := Lib.hid (show LnOk q.1 by rw [hq]; exact seeP_ok HO.out c)
          have HSEE := Lib.hid (see_any HA.out c x hbt HO.out.l0 (by have := HO.out.m; have := HO.out.s0; omega) HO.out.s0 (by have := HO.out.m; have := HO.out.l0; omega) (by have := HO.out.t; have := HO.out.m; have := HO.out.l0; omega))
          rw [← hq] at HSEE
          clear hstep hq hbt hx hc
          obtain ⟨q1, q2⟩ := q
          by_cases h0 : q2 = 0
          · subst h0
            go_wp2_with (go_at_call 173; refine HSEE.out.mono ?_; rintro e' w3 ⟨rfl, v3, hat3, ht3, hb3⟩; have f6 : w3.frozen? ⟨g, 6, none⟩ = false := hat3.b.froz 6; have a6 : w3.cell? ⟨g, 6, none⟩ = some (.int .i64 q1.e) := hat3.b.cell 6; have HA3 := Lib.hid hat3; have HT3 := Lib.hid ht3; have HB3 := Lib.hid hb3; clear hat3 ht3 hb3)
            go_roundw
            case rel =>
              refine ⟨k + 1, { q1 with e := 0 }, v3, hlt, by go_num, HA3.out.setE 0, lnOk_e HQ.out 0, ?_, ?_, ?_⟩
              · rw [HP.out, HST.out, if_pos trivial]
                refine Prod.ext rfl ?_
                show k + (_ + 1) = k + 1 + _
                omega
              · refine touch_into HT.out (HT3.out.setCell (p := ⟨g, 6, none⟩) (Or.inl rfl) _) (fun i hi hp => ?_)
                rcases hp with hp | hp
                · exact Or.inl hp
                · rcases HL.out with hl | hl
                  · exact Or.inr (hl ▸ hp)
                  · exact absurd (hl i hp) (by omega)
              · rcases HB3.out with hb | hb
                · rw [hb]; exact HL.out
                · exact Or.inr (fun j hj => Nat.le_trans HT.out.size (hb j hj))
            case measure =>
              rw [eM_1 ((HA.out.b.cell 6).trans (by show some (Value.int .i64 sk.e) = _; rw [← HE.out])), eM_1 ((HA3.out.setE 0).b.cell 6)]
              simp [intOf]
              omega
          · have h1 : (q2 == 0) = false := by rw [beq_eq_false_iff_ne]; exact h0
            have H0 := Lib.hid h0
            clear h0
            go_wp2_with (go_at_call 173; refine HSEE.out.mono ?_; rintro e' w3 ⟨rfl, v3, hat3, ht3, hb3⟩; have f6 : w3.frozen? ⟨g, 6, none⟩ = false := hat3.b.froz 6; have a6 : w3.cell? ⟨g, 6, none⟩ = some (.int .i64 q1.e) := hat3.b.cell 6; have HA3 := Lib.hid hat3; have HT3 := Lib.hid ht3; have HB3 := Lib.hid hb3; clear hat3 ht3 hb3)
            go_roundw
            case rel =>
              refine ⟨k, { q1 with e := q2 }, v3, hk, rfl, HA3.out.setE q2, lnOk_e HQ.out q2, ?_, ?_, ?_⟩
              · rw [HP.out, HST.out, if_neg H0.out, lnFeed_stop _ _ (Or.inr H0.out)]
              · refine touch_into HT.out (HT3.out.setCell (p := ⟨g, 6, none⟩) (Or.inl rfl) _) (fun i hi hp => ?_)
                rcases hp with hp | hp
                · exact Or.inl hp
                · rcases HL.out with hl | hl
                  · exact Or.inr (hl ▸ hp)
                  · exact absurd (hl i hp) (by omega)
              · rcases HB3.out with hb | hb
                · rw [hb]; exact HL.out
                · exact Or.inr (fun j hj => Nat.le_trans HT.out.size (hb j hj))
            case measure =>
              rw [eM_1 ((HA.out.b.cell 6).trans (by show some (Value.int .i64 sk.e) = _; rw [← HE.out])), eM_0 ((HA3.out.setE q2).b.cell 6) H0.out]
              simp [intOf]
        · have h1 : (E == 0) = false := by rw [beq_eq_false_iff_ne]; exact he
          have hfin : R = (sk, k) := by rw [HP.out, lnFeed_stop _ _ (Or.inr (HE.out ▸ he))]; rfl
          have HF := Lib.hid hfin
          clear hfin
          go_wp2_with fail
          refine wp_region_drewZ (by kernel_rfl) (by kernel_rfl) ?_
          repeat go_big_quiet_step (fail)
          refine wpQuiet_nil ?_
          rintro _ ⟨nq, rfl⟩
          go_wp2_with fail
          go_ret2
          exact ⟨by rw [HF.out, ← HE.out]; rfl, vk, by rw [HF.out]; exact HA.out.drewN nq, HT.out.drewN nq, HL.out⟩
    · have hk1 : decide ((k : Int) < (S.size : Int)) = false := decide_eq_false (by omega)
      have hfin : R = (sk, k) := by
        rw [HP.out, List.drop_of_length_le (by have := HN.out; omega)]
        rfl
      have HF := Lib.hid hfin
      clear hfin
      go_wp2_with fail
      refine wp_region_drewZ (by kernel_rfl) (by kernel_rfl) ?_
      repeat go_big_quiet_step (fail)
      refine wpQuiet_nil ?_
      rintro _ ⟨nq, rfl⟩
      go_wp2_with fail
      go_ret2
      exact ⟨by rw [HF.out, ← HE.out]; rfl, vk, by rw [HF.out]; exact HA.out.drewN nq, HT.out.drewN nq, HL.out⟩
end Go.Proofs.YtcpjkemjpgggcaaGreatDoor
-- PaAt
namespace Go.Proofs.YtcpjkemjpgggcaaGreatDoor
open Go.RowKit
theorem LnAt.touch {P : Nat → Prop} {w w1 : World} {g B : Nat} {v : Value} {s : LnS} (h : LnAt w g B v s) (t : Touch P w w1) (hg : ¬ P g) (hv : ∀ k, v.ownBlock = some k → ¬ P k) : LnAt w1 g B v s :=
  ⟨h.b.touch t hg, own_touch h.o t hv, h.lt, Nat.le_trans h.sz t.size⟩
theorem touch_cell {P : Nat → Prop} {w w1 : World} {p : Addr} {v : Value} (h : Touch P w w1) (hp : ¬ P p.block) (hc : w.cell? p = some v) : w1.cell? p = some v := by
  have hlt := World.block_lt_of_cell? w p hc
  rw [← hc]
  unfold World.cell?
  rw [h.block p.block hlt hp]
/-- The row of a parser. -/
def paRow (g : Nat) (va vf : Value) (kind a fields c d fold : Int) (p : PaS) : Array Value := #[.pointer (some ⟨g, 0, none⟩), .int .i64 kind, .int .i64 a, .int .i64 fields, .int .i64 c, .int .i64 d, .int .i64 fold, va, .bool p.fin, .string p.hd.m, .string p.hd.t, .int .i64 p.hd.k, .int .i64 p.hd.n, .string p.hd.r, vf, .int .i64 p.e]
theorem OwnS.lt {w : World} {B : Nat} {v : Value} {l : List ByteArray} (h : OwnS w B v l) : ∀ k, v.ownBlock = some k → B ≤ k ∧ k < w.heap.size := by
  intro k hk
  obtain ⟨_, h2⟩ := h
  rcases h2 with ⟨rfl, _⟩ | ⟨g', cap, cur, rfl, hB, hg, _⟩
  · cases hk
  · have : g' = k := by injection hk
    subst this
    exact ⟨hB, (Array.getElem?_eq_some_iff.1 hg).1⟩
theorem OwnF.lt {w : World} {B : Nat} {v : Value} {l : List Fd} (h : OwnF w B v l) : ∀ k, v.ownBlock = some k → B ≤ k ∧ k < w.heap.size := by
  intro k hk
  obtain ⟨_, h2⟩ := h
  rcases h2 with ⟨rfl, _⟩ | ⟨g', cap, cur, rfl, hB, hg, _⟩
  · cases hk
  · have : g' = k := by injection hk
    subst this
    exact ⟨hB, (Array.getElem?_eq_some_iff.1 hg).1⟩
theorem OwnS.capok {w : World} {B : Nat} {v : Value} {l : List ByteArray} (h : OwnS w B v l) : CapOk v := by
  obtain ⟨_, h2⟩ := h
  rcases h2 with ⟨rfl, _⟩ | ⟨g', cap, cur, rfl, hB, hg, h3, _⟩
  · exact Nat.le_refl _
  · exact h3
/-- The blocks that a parser writes. -/
def PaP (b g : Nat) (vl va : Value) (j : Nat) : Prop := j = b ∨ j = g ∨ vl.ownBlock = some j ∨ va.ownBlock = some j
end Go.Proofs.YtcpjkemjpgggcaaGreatDoor
-- PLine
namespace Go.Proofs.YtcpjkemjpgggcaaGreatDoor
open Go.RowKit
/-- What the call of Parse reads of a parser. -/
structure PlS (b : Nat) (va : Value) (kind a fields c d fold : Int) (w : World) : Prop where
  c1 : w.cell? ⟨b, 1, none⟩ = some (.int .i64 kind)
  c2 : w.cell? ⟨b, 2, none⟩ = some (.int .i64 a)
  c3 : w.cell? ⟨b, 3, none⟩ = some (.int .i64 fields)
  c4 : w.cell? ⟨b, 4, none⟩ = some (.int .i64 c)
  c5 : w.cell? ⟨b, 5, none⟩ = some (.int .i64 d)
  c6 : w.cell? ⟨b, 6, none⟩ = some (.int .i64 fold)
  c7 : w.cell? ⟨b, 7, none⟩ = some va
/-- The head's six cells of a parser. -/
def setH (w : World) (b : Nat) (h : Hd) (f : Value) : World := (((((w.setCell ⟨b, 9, none⟩ (.string h.m)).setCell ⟨b, 10, none⟩ (.string h.t)).setCell ⟨b, 11, none⟩ (.int .i64 h.k)).setCell ⟨b, 12, none⟩ (.int .i64 h.n)).setCell ⟨b, 13, none⟩ (.string h.r)).setCell ⟨b, 14, none⟩ f
theorem touch_setH (w : World) (b : Nat) (q : Hd) (f : Value) : Touch (fun j => j = b) w (setH w b q f) :=
  ((((((Touch.refl (fun j => j = b) w).setCell (p := ⟨b, 9, none⟩) rfl _).setCell (p := ⟨b, 10, none⟩) rfl _).setCell (p := ⟨b, 11, none⟩) rfl _).setCell (p := ⟨b, 12, none⟩) rfl _).setCell (p := ⟨b, 13, none⟩) rfl _).setCell (p := ⟨b, 14, none⟩) rfl _
end Go.Proofs.YtcpjkemjpgggcaaGreatDoor
-- PaOk
namespace Go.Proofs.YtcpjkemjpgggcaaGreatDoor
open Go.RowKit
theorem pAcc_len : ∀ l : List ByteArray, (pAcc l).1.length ≤ l.length
  | [] => Nat.le_refl _
  | s :: l => by
    have ih := pAcc_len l
    unfold pAcc
    split
    · exact Nat.zero_le _
    split
    · exact Nat.zero_le _
    · simpa using ih
theorem allF_len (fold : Int) (l : List ByteArray) : (allF fold l).1.length ≤ l.length := by
  unfold allF
  cases hu : ufold fold l with
  | none => exact Nat.zero_le _
  | some out =>
    have h1 : out.length ≤ l.length := (ufold_len fold l l.length (Nat.le_refl _) out (by rw [List.take_length]; exact hu)).1
    exact Nat.le_trans (pAcc_len out) h1
theorem headP_len (kind fields fold : Int) (l : List ByteArray) : (headP kind fields fold l).1.fs.length ≤ l.length := by
  unfold headP
  split
  · exact Nat.zero_le _
  · cases l with
    | nil => exact Nat.zero_le _
    | cons s rest =>
      show (if (firstP kind s).2 ≠ 0 then (hd0, (firstP kind s).2) else if fields < (rest.length : Int) then (hd0, 4) else if (allF fold rest).2 ≠ 0 then (hd0, (allF fold rest).2) else ({ (firstP kind s).1 with fs := (allF fold rest).1 }, 0)).1.fs.length ≤ rest.length + 1
      split
      · exact Nat.zero_le _
      split
      · exact Nat.zero_le _
      split
      · exact Nat.zero_le _
      · exact Nat.le_succ_of_le (allF_len fold rest)
/-- How much a parser may hold; it awaits a line. -/
structure PaBd (p : PaS) : Prop where
  l : LnOk p.ln
  t : (p.ln.line.length + tot p.all + p.all.length : Int) ≤ p.ln.spent
  w : p.ln.whole = false
  e : p.fin = false → p.e = 0 → p.ln.e = 0
  f : p.hd.fs.length ≤ 65536
theorem PaBd.all {p : PaS} (h : PaBd p) : p.all.length ≤ 65536 ∧ tot p.all ≤ 65536 := by
  have := h.t
  have := h.l.m
  have := h.l.l0
  omega
theorem seeP_D (s : LnS) (c : UInt8) : s.spent - s.line.length + (if (seeP s c).1.whole = true ∧ s.whole = false then 1 else 0) ≤ (seeP s c).1.spent - (seeP s c).1.line.length := by
  obtain ⟨L, S, Ln, Wi, Tu, Wh, E⟩ := s
  unfold seeP
  repeat' split
  all_goals simp_all
  all_goals omega
theorem lnFeed_D : ∀ (l : List UInt8) (s : LnS), s.spent - s.line.length + (if (lnFeed l s).1.whole = true ∧ s.whole = false then 1 else 0) ≤ (lnFeed l s).1.spent - (lnFeed l s).1.line.length
  | [], s => by
    have : ¬ (s.whole = true ∧ s.whole = false) := by rintro ⟨a, b⟩; rw [a] at b; cases b
    show s.spent - s.line.length + (if s.whole = true ∧ s.whole = false then 1 else 0) ≤ s.spent - s.line.length
    rw [if_neg this]
    omega
  | c :: r, s => by
    have hn : ∀ x : LnS, ¬ (x.whole = true ∧ x.whole = false) := by rintro x ⟨a, b⟩; rw [a] at b; cases b
    rw [lnFeed]
    by_cases h1 : s.whole = true ∨ s.e ≠ 0
    · rw [if_pos h1]
      show s.spent - s.line.length + (if s.whole = true ∧ s.whole = false then 1 else 0) ≤ s.spent - s.line.length
      rw [if_neg (hn s)]
      omega
    · rw [if_neg h1]
      have hs := seeP_D s c
      by_cases h2 : (seeP s c).2 = 0
      · rw [if_pos h2]
        have ih := lnFeed_D r { (seeP s c).1 with e := 0 }
        have hw : s.whole = false := by
          cases hw : s.whole with
          | true => exact absurd (Or.inl hw) h1
          | false => rfl
        simp only [hw, and_true] at hs ⊢
        generalize (lnFeed r { (seeP s c).1 with e := 0 }).1 = q at ih ⊢
        simp only at ih
        cases hq : q.whole with
        | false =>
          simp only [hq, Bool.false_eq_true, false_and, if_false] at ih ⊢
          split at hs <;> omega
        | true =>
          cases hp : (seeP s c).1.whole with
          | true =>
            simp only [hp, if_true] at hs
            simp only [hq, hp, Bool.true_eq_false, and_false, if_false, if_true] at ih ⊢
            omega
          | false =>
            simp only [hp, Bool.false_eq_true, if_false] at hs
            simp only [hq, hp, and_self, if_true] at ih ⊢
            omega
      · rw [if_neg h2]
        exact hs
theorem lnFeed_stuck {l : List UInt8} {s : LnS} (hl : l ≠ []) (hw : s.whole = false) (he : s.e = 0) (h0 : (lnFeed l s).2 = 0) : (lnFeed l s).1.e ≠ 0 ∧ (lnFeed l s).1.whole = false := by
  cases l with
  | nil => exact absurd rfl hl
  | cons c r =>
    rw [lnFeed, if_neg (by rw [hw, he]; simp)] at h0 ⊢
    by_cases h2 : (seeP s c).2 = 0
    · rw [if_pos h2] at h0
      exact absurd h0 (Nat.succ_ne_zero _)
    · rw [if_neg h2]
      refine ⟨h2, ?_⟩
      revert h2
      unfold seeP
      repeat' split
      all_goals first
        | (intro _; exact hw)
        | (intro hs; exact absurd rfl hs)
/-- A turn of the loop keeps the bounds. -/
theorem pIter_ok (kind fields fold : Int) (l : List UInt8) {p : PaS} (h : PaBd p) : PaBd (pIter kind fields fold l p) := by
  have h1 := lnFeed_ok l p.ln h.l
  have h2 := lnFeed_D l p.ln
  have h3 := h.t
  rw [h.w] at h2
  simp only [and_true] at h2
  unfold pIter
  generalize (lnFeed l p.ln).1 = q at h1 h2 ⊢
  cases hq : q.whole with
  | true =>
    simp only [hq, if_true] at h2 ⊢
    unfold lineP
    by_cases hs : (strL q.line).size ≠ 0
    · rw [if_pos hs]
      refine ⟨⟨h1.l0, h1.s0, h1.m, ?_⟩, ?_, rfl, fun _ e => e, h.f⟩
      · have := h1.s0
        simpa using this
      · show ((0 : Nat) : Int) + tot (p.all ++ [strL q.line]) + (p.all ++ [strL q.line]).length ≤ q.spent
        rw [tot_snoc, strL_size, List.length_append]
        simp only [List.length_singleton]
        omega
    · rw [if_neg hs]
      split
      · refine ⟨⟨h1.l0, h1.s0, h1.m, by have := h1.s0; simpa using this⟩, ?_, rfl, (fun e => by cases e), Nat.le_trans (headP_len _ _ _ _) h.all.1⟩
        show ((0 : Nat) : Int) + tot p.all + p.all.length ≤ q.spent
        omega
      · refine ⟨⟨h1.l0, h1.s0, h1.m, by have := h1.s0; simpa using this⟩, ?_, rfl, fun _ e => e, h.f⟩
        show ((0 : Nat) : Int) + tot p.all + p.all.length ≤ q.spent
        omega
  | false =>
    simp only [hq, Bool.false_eq_true, if_false] at h2 ⊢
    refine ⟨h1, ?_, hq, fun _ e => e, h.f⟩
    show (q.line.length : Int) + tot p.all + p.all.length ≤ q.spent
    omega
end Go.Proofs.YtcpjkemjpgggcaaGreatDoor
-- PFeed
namespace Go.Proofs.YtcpjkemjpgggcaaGreatDoor
open Go.RowKit
/-- A row that lies where another lay, or is new. -/
def FreshB (w : World) (v v' : Value) : Prop := v'.ownBlock = v.ownBlock ∨ ∀ k, v'.ownBlock = some k → w.heap.size ≤ k
theorem FreshB.refl (w : World) (v : Value) : FreshB w v v := Or.inl rfl
theorem FreshB.trans {w w1 : World} {v v1 v2 : Value} (h : FreshB w v v1) (hs : w.heap.size ≤ w1.heap.size) (k : FreshB w1 v1 v2) : FreshB w v v2 := by
  rcases k with k | k
  · rcases h with h | h
    · exact Or.inl (k.trans h)
    · exact Or.inr (fun j hj => h j (k ▸ hj))
  · exact Or.inr (fun j hj => Nat.le_trans hs (k j hj))
theorem paP_into {w : World} {b g : Nat} {vl va vl1 va1 : Value} (hl : FreshB w vl vl1) (ha : FreshB w va va1) : ∀ i, i < w.heap.size → PaP b g vl1 va1 i → PaP b g vl va i := by
  rintro i hi (e | e | e | e)
  · exact Or.inl e
  · exact Or.inr (Or.inl e)
  · rcases hl with hl | hl
    · exact Or.inr (Or.inr (Or.inl (hl ▸ e)))
    · exact absurd (hl i e) (by omega)
  · rcases ha with ha | ha
    · exact Or.inr (Or.inr (Or.inr (ha ▸ e)))
    · exact absurd (ha i e) (by omega)
theorem lnP_pa {b g : Nat} {vl va : Value} : ∀ i, LnP g vl i → PaP b g vl va i := by
  rintro i (e | e)
  · exact Or.inr (Or.inl e)
  · exact Or.inr (Or.inr (Or.inl e))
/-- Whether a parser holds no error. -/
def pM (b : Nat) (w : World) : Nat := match w.cell? ⟨b, 15, none⟩ with
  | some (.int _ e) => if e = 0 then 1 else 0
  | _ => 0
theorem pM_eq {b : Nat} {w : World} {e : Int} (h : w.cell? ⟨b, 15, none⟩ = some (.int .i64 e)) : pM b w = if e = 0 then 1 else 0 := by unfold pM; rw [h]
theorem extract_drop (S : ByteArray) (k : Nat) : (S.extract k S.size).data.toList = S.data.toList.drop k := by
  have h1 : (S.extract k S.size).data.toList = (S.data.toList.drop k).take (S.size - k) := by simp [ByteArray.data_extract, List.extract_eq_take_drop]
  rw [h1, List.take_of_length_le (by rw [List.length_drop, ← Lib.size_eq]; omega)]
end Go.Proofs.YtcpjkemjpgggcaaGreatDoor
-- HNew
namespace Go.Proofs.YtcpjkemjpgggcaaGreatDoor
open Go.RowKit
def pa0 (a : Int) : PaS := ⟨ln0 a, [], false, hd0, 0⟩
theorem pa0_bd {a : Int} (h0 : 0 ≤ a) (h1 : a ≤ 65536) : PaBd (pa0 a) := ⟨⟨h0, Int.le_refl 0, by show a + 0 ≤ 65536; omega, by show ((0 : Nat) : Int) ≤ 0; decide⟩, by show ((0 : Nat) : Int) + tot [] + 0 ≤ 0; decide, rfl, fun _ _ => rfl, Nat.zero_le _⟩
end Go.Proofs.YtcpjkemjpgggcaaGreatDoor

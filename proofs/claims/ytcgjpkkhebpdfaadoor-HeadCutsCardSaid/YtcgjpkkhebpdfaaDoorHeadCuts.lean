/- abutmentlaw22.HeadCuts, for every kind, all limits and all parts. -/
import Derived.Test.YtcgjpkkhebpdfaaDoorHeadParses
import Derived.Test.YtcgjpkkhebpdfaaDoorHdC
set_option linter.unusedSimpArgs false
set_option linter.unusedVariables false
namespace Go.Proofs.YtcgjpkkhebpdfaaDoor
open Go.RowKit
theorem Blk.below1 {w v : World} {o : Obj} {cs : Array Value} {t : TypeId} (h : Blk (w.alloc o) w.heap.size cs t) (hb : Below (w.heap.size + 1) (w.alloc o) v) : Blk v w.heap.size cs t := by
  refine h.touch (P := fun j => w.heap.size + 1 ≤ j) ⟨hb.os, hb.tape, hb.output, hb.size, fun k hk hp => hb.block k (by omega)⟩ (by omega)
theorem below_al3 {w v : World} {o o1 o2 : Obj} (hb : Below (((w.alloc o).alloc o1).alloc o2).heap.size (((w.alloc o).alloc o1).alloc o2) v) : Below (w.heap.size + 1) (w.alloc o) v :=
  (((Below.refl (w.heap.size + 1) (w.alloc o)).alloc (by simp) o1).alloc (by simp <;> omega) o2).trans (hb.mono (by simp <;> omega))
theorem strs_one {w V : World} {J : ByteArray} {P : Nat → Prop} (t : Touch P (w.alloc (.cells #[.string J] 9)) V) (h : ¬ P w.heap.size) : Strs V (.slice (some ⟨w.heap.size, 0, none⟩) 1 1) [J] :=
  ⟨_, 1, rfl, fun i hi => ⟨w.heap.size, 0, rfl, by
    have hi0 : i = 0 := by simpa using hi
    subst hi0
    exact touch_cell t h ((Blk.new w #[.string J] 9).cell 0)⟩⟩
theorem doneH_len2 (p : PaS) : (doneH p).fs.length ≤ p.hd.fs.length := by
  unfold doneH
  split
  · exact Nat.le_refl _
  · exact Nat.zero_le _
theorem paP_nil {b g j : Nat} (h1 : j ≠ b) (h2 : j ≠ g) : ¬ PaP b g nilS nilS j := by
  rintro (e | e | e | e)
  · exact h1 e
  · exact h2 e
  · cases e
  · cases e
theorem octs_nil {l : List ByteArray} (h : octs l ≠ []) : l ≠ [] := by
  intro e
  subst e
  exact h rfl
set_option maxRecDepth 100000 in
set_option maxHeartbeats 8000000 in
theorem headCuts_any (kind a fields c d fold : Int) (hfi : -9223372036854775808 ≤ fields ∧ fields ≤ 9223372036854775807) (v : Value) (l : List ByteArray) (w : World) {mx : Int} (hm : w.cell? ⟨0, 0, none⟩ = some (.int .i64 mx)) (hS : Strs w v l) (hl : l.length ≤ 9223372036854775807) :
    Calls Tryd.prog 3 #[.int .i64 kind, .agg #[.int .i64 a, .int .i64 fields, .int .i64 c, .int .i64 d, .int .i64 fold], v] w fun e w' => e = .returned (.bool true) ∧ Below w.heap.size w w' := by
  have HM := Lib.hid hm
  have HLV := Lib.hid (fun (W : World) (hW : W.cell? ⟨0, 0, none⟩ = some (.int .i64 mx)) => hlives_any W hW)
  have HJC := Lib.hid (fun (W : World) (hW : Strs W v l) => joined_any v l W hW hl)
  have hb0 : Below w.heap.size w (w.alloc (.cells #[.int .i64 a, .int .i64 fields, .int .i64 c, .int .i64 d, .int .i64 fold] 23)) := (Below.refl _ _).alloc (Nat.le_refl _) _
  have HS0 := Lib.hid (hS.below hb0)
  have KL := Lib.hid (Blk.new w #[.int .i64 a, .int .i64 fields, .int .i64 c, .int .i64 d, .int .i64 fold] 23)
  have HW0 := Lib.hid hb0
  have HSW := Lib.hid hS
  have hjo := joinP_ok l 0 ⟨#[]⟩ (by decide)
  obtain ⟨J, hJ⟩ : ∃ J, J = joinP l 0 ⟨#[]⟩ := ⟨_, rfl⟩
  rw [← hJ] at HJC hjo
  obtain ⟨J1, J2⟩ := J
  have HJO := Lib.hid hjo
  have HFN := Lib.hid (fun (W : World) => nfeed_nil J1 W)
  have HFE := Lib.hid (fun (W : World) (b : Nat) (h : W.cell? ⟨b, 0, none⟩ = some (.pointer none)) => nfeed_empty J1 b W h)
  have HDN := Lib.hid (fun (W : World) => ndone_nil W)
  have HBN := Lib.hid (fun (W : World) => nbegun_nil W)
  have HBE := Lib.hid (fun (W : World) (b : Nat) (h : W.cell? ⟨b, 0, none⟩ = some (.pointer none)) => nbegun_empty b W h)
  have HHN := Lib.hid (fun (W : World) => nhead_nil W)
  have HSN := Lib.hid (fun (W : World) => hsame_self hd0 nilS nilS W (Flds.nil _ _ _) (Flds.nil _ _ _) (Nat.zero_le _))
  simp only [Hd.row, hd0, nilS] at HSN
  clear hJ hjo hm hb0 hS
  by_cases hmay : (a < 0 ∨ 65536 < a) ∨ (kind ≠ 1 ∧ kind ≠ 2)
  · have HNW := Lib.hid (fun (W : World) => hnew_wrong kind a fields c d fold hmay W)
    clear hmay
    go_enter Tryd.func3, Tryd.ntmps3
    go_wp2_with (first
      | (go_at_call 4; refine (HJC.out _ HS0.out).mono ?_; rintro e1 w1 ⟨rfl, h1⟩; subst h1)
      | (go_at_call 5; refine (HFN.out _).mono ?_; rintro e1 w1 ⟨rfl, h1⟩; subst h1; clear HFN)
      | (go_at_call 5; refine (HFE.out _ _ ((Blk.new' (by simp)).cell 0)).mono ?_; rintro e1 w1 ⟨rfl, h1⟩; subst h1)
      | (go_at_call 6; refine (HDN.out _).mono ?_; rintro e1 w1 ⟨rfl, h1⟩; subst h1)
      | (go_at_call 7; refine (HBN.out _).mono ?_; rintro e1 w1 ⟨rfl, h1⟩; subst h1; clear HBN)
      | (go_at_call 7; refine (HBE.out _ _ ((Blk.new' (by simp)).cell 0)).mono ?_; rintro e1 w1 ⟨rfl, h1⟩; subst h1)
      | (go_at_call 9; refine (HHN.out _).mono ?_; rintro e1 w3 ⟨rfl, hb3⟩; have HB3 := Lib.hid (below_al3 hb3); clear hb3; simp only [Hd.row, hd0, nilS])
      | (go_at_call 8; refine (HSN.out _).mono ?_; rintro e1 w4 ⟨rfl, hb4⟩; have HU := Lib.hid (HB3.out.trans (hb4.mono (Nat.le_trans (by simp) HB3.out.size))); clear hb4))
    refine wp_region_at (S := fun v => Blk v w.heap.size #[.int .i64 a, .int .i64 fields, .int .i64 c, .int .i64 d, .int .i64 fold] 23) (by kernel_rfl) ?_
    intro V0 hV0
    have hu0 : Below (w.heap.size + 1) (w.alloc (.cells #[.int .i64 a, .int .i64 fields, .int .i64 c, .int .i64 d, .int .i64 fold] 23)) V0 := by rw [hV0]; exact HU.out.drew
    have h0 : Blk V0 w.heap.size #[.int .i64 a, .int .i64 fields, .int .i64 c, .int .i64 d, .int .i64 fold] 23 := KL.out.below1 hu0
    have HU0 := Lib.hid (HW0.out.trans (hu0.mono (Nat.le_succ _)))
    clear hV0 hu0
    refine wpAnyH_take (i := 0) (v := .int .i64 kind) rfl (by kernel_rfl) (by kernel_rfl) (by kernel_rfl) (fun _ _ _ h => h) (Or.inl ⟨by kernel_rfl, ?hy1⟩) h0 ?rest1
    case hy1 =>
      intro v hv
      clear hv
      go_simp
    (try simp only [Act.put, List.setIfInBounds_toArray, List.set_cons_zero, List.set_cons_succ])
    refine wpAnyH_take (i := 1) (v := .agg #[.int .i64 a, .int .i64 fields, .int .i64 c, .int .i64 d, .int .i64 fold]) rfl (by kernel_rfl) (by kernel_rfl) (by kernel_rfl) (fun _ _ _ h => h) (Or.inl ⟨by kernel_rfl, ?hy2⟩) h0 ?rest2
    case hy2 =>
      intro v hv
      have k0 := hv.cell 0
      have k1 := hv.cell 1
      have k2 := hv.cell 2
      have k3 := hv.cell 3
      have k4 := hv.cell 4
      simp at k0 k1 k2 k3 k4
      clear hv
      go_simp
    (try simp only [Act.put, List.setIfInBounds_toArray, List.set_cons_zero, List.set_cons_succ])
    refine wpAnyH_take (i := 3) (v := .int .i64 kind) rfl (by kernel_rfl) (by kernel_rfl) (by kernel_rfl) (fun _ _ _ h => h) (Or.inl ⟨by kernel_rfl, ?hy3⟩) h0 ?rest3
    case hy3 =>
      intro v hv
      clear hv
      go_simp
    (try simp only [Act.put, List.setIfInBounds_toArray, List.set_cons_zero, List.set_cons_succ])
    refine wpAnyH_take (i := 4) (v := .agg #[.int .i64 a, .int .i64 fields, .int .i64 c, .int .i64 d, .int .i64 fold]) rfl (by kernel_rfl) (by kernel_rfl) (by kernel_rfl) (fun _ _ _ h => h) (Or.inl ⟨by kernel_rfl, ?hy4⟩) h0 ?rest4
    case hy4 =>
      intro v hv
      have k0 := hv.cell 0
      have k1 := hv.cell 1
      have k2 := hv.cell 2
      have k3 := hv.cell 3
      have k4 := hv.cell 4
      simp at k0 k1 k2 k3 k4
      clear hv
      go_simp
    (try simp only [Act.put, List.setIfInBounds_toArray, List.set_cons_zero, List.set_cons_succ])
    refine wpAnyH_ready (rs := [2]) (by kernel_rfl) (by simp) ?_
    refine AllReadyH.cons rfl (fun K hK => ?_) AllReadyH.nil
    go_simp
    refine (HNW.out _).mono ?_
    rintro e V1 ⟨rfl, hb1⟩
    have h1 := h0.call hb1
    have HU1 := Lib.hid (HU0.out.trans (hb1.mono HU0.out.size))
    clear hb1 h0
    refine hK _ _ h1 (fun _ => ?_)
    clear hK K
    (try simp only [Act.put, List.setIfInBounds_toArray, List.set_cons_zero, List.set_cons_succ])
    refine wpAnyH_ready (rs := [5]) (by kernel_rfl) (by simp) ?_
    refine AllReadyH.cons rfl (fun K hK => ?_) AllReadyH.nil
    go_simp
    refine (HNW.out _).mono ?_
    rintro e V2 ⟨rfl, hb2⟩
    have h2 := h1.call hb2
    have HU2 := Lib.hid (HU1.out.trans (hb2.mono HU1.out.size))
    clear hb2 h1
    refine hK _ _ h2 (fun _ => ?_)
    clear hK K
    (try simp only [Act.put, List.setIfInBounds_toArray, List.set_cons_zero, List.set_cons_succ])
    refine wpAnyH_ready (rs := [6]) (by kernel_rfl) (by simp) ?_
    refine AllReadyH.cons rfl (fun K hK => ?_) AllReadyH.nil
    go_simp
    refine hK _ _ h2 (fun _ => ?_)
    clear hK K
    (try simp only [Act.put, List.setIfInBounds_toArray, List.set_cons_zero, List.set_cons_succ])
    refine wpAnyH_ready (rs := [7]) (by kernel_rfl) (by simp) ?_
    refine AllReadyH.cons rfl (fun K hK => ?_) AllReadyH.nil
    go_simp
    refine hK _ _ h2 (fun _ => ?_)
    clear hK K
    (try simp only [Act.put, List.setIfInBounds_toArray, List.set_cons_zero, List.set_cons_succ])
    refine wpAnyH_done (by kernel_rfl) ?_ _
    clear h2
    cases J2
    all_goals
      have HM2 := Lib.hid (mx_below HM.out HU2.out)
      go_wp2_with (go_at_call 11; refine (HLV.out _ HM2.out).mono ?_; rintro e5 w5 ⟨rfl, hb5⟩; have HU5 := Lib.hid (HU2.out.trans (hb5.mono HU2.out.size)); clear hb5)
      go_ret
      exact ⟨rfl, HU5.out⟩
  have HNW := Lib.hid (fun (W : World) => hnew_any kind a fields c d fold (by omega) (by omega) (by omega) W)
  have HBD := Lib.hid (pa0_bd (a := a) (by omega) (by omega))
  clear hmay
  go_enter Tryd.func3, Tryd.ntmps3
  go_wp2_with (first
    | (go_at_call 4; refine (HJC.out _ HS0.out).mono ?_; rintro e1 w1 ⟨rfl, h1⟩; subst h1)
    | (go_at_call 5; refine (HFN.out _).mono ?_; rintro e1 w1 ⟨rfl, h1⟩; subst h1; clear HFN)
    | (go_at_call 5; refine (HFE.out _ _ ((Blk.new' (by simp)).cell 0)).mono ?_; rintro e1 w1 ⟨rfl, h1⟩; subst h1)
    | (go_at_call 6; refine (HDN.out _).mono ?_; rintro e1 w1 ⟨rfl, h1⟩; subst h1)
    | (go_at_call 7; refine (HBN.out _).mono ?_; rintro e1 w1 ⟨rfl, h1⟩; subst h1; clear HBN)
    | (go_at_call 7; refine (HBE.out _ _ ((Blk.new' (by simp)).cell 0)).mono ?_; rintro e1 w1 ⟨rfl, h1⟩; subst h1)
    | (go_at_call 9; refine (HHN.out _).mono ?_; rintro e1 w3 ⟨rfl, hb3⟩; have HB3 := Lib.hid (below_al3 hb3); clear hb3; simp only [Hd.row, hd0, nilS])
    | (go_at_call 8; refine (HSN.out _).mono ?_; rintro e1 w4 ⟨rfl, hb4⟩; have HU := Lib.hid (HB3.out.trans (hb4.mono (Nat.le_trans (by simp) HB3.out.size))); clear hb4))
  refine wp_region_at (S := fun v => Blk v w.heap.size #[.int .i64 a, .int .i64 fields, .int .i64 c, .int .i64 d, .int .i64 fold] 23) (by kernel_rfl) ?_
  intro V0 hV0
  have hu0 : Below (w.heap.size + 1) (w.alloc (.cells #[.int .i64 a, .int .i64 fields, .int .i64 c, .int .i64 d, .int .i64 fold] 23)) V0 := by rw [hV0]; exact HU.out.drew
  have h0 : Blk V0 w.heap.size #[.int .i64 a, .int .i64 fields, .int .i64 c, .int .i64 d, .int .i64 fold] 23 := KL.out.below1 hu0
  have HU0 := Lib.hid (HW0.out.trans (hu0.mono (Nat.le_succ _)))
  clear hV0 hu0
  refine wpAnyH_take (i := 0) (v := .int .i64 kind) rfl (by kernel_rfl) (by kernel_rfl) (by kernel_rfl) (fun _ _ _ h => h) (Or.inl ⟨by kernel_rfl, ?hz5⟩) h0 ?resu5
  case hz5 =>
    intro v hv
    clear hv
    go_simp
  (try simp only [Act.put, List.setIfInBounds_toArray, List.set_cons_zero, List.set_cons_succ])
  refine wpAnyH_take (i := 1) (v := .agg #[.int .i64 a, .int .i64 fields, .int .i64 c, .int .i64 d, .int .i64 fold]) rfl (by kernel_rfl) (by kernel_rfl) (by kernel_rfl) (fun _ _ _ h => h) (Or.inl ⟨by kernel_rfl, ?hz6⟩) h0 ?resu6
  case hz6 =>
    intro v hv
    have k0 := hv.cell 0
    have k1 := hv.cell 1
    have k2 := hv.cell 2
    have k3 := hv.cell 3
    have k4 := hv.cell 4
    simp at k0 k1 k2 k3 k4
    clear hv
    go_simp
  (try simp only [Act.put, List.setIfInBounds_toArray, List.set_cons_zero, List.set_cons_succ])
  refine wpAnyH_take (i := 3) (v := .int .i64 kind) rfl (by kernel_rfl) (by kernel_rfl) (by kernel_rfl) (fun _ _ _ h => h) (Or.inl ⟨by kernel_rfl, ?hz7⟩) h0 ?resu7
  case hz7 =>
    intro v hv
    clear hv
    go_simp
  (try simp only [Act.put, List.setIfInBounds_toArray, List.set_cons_zero, List.set_cons_succ])
  refine wpAnyH_take (i := 4) (v := .agg #[.int .i64 a, .int .i64 fields, .int .i64 c, .int .i64 d, .int .i64 fold]) rfl (by kernel_rfl) (by kernel_rfl) (by kernel_rfl) (fun _ _ _ h => h) (Or.inl ⟨by kernel_rfl, ?hz8⟩) h0 ?resu8
  case hz8 =>
    intro v hv
    have k0 := hv.cell 0
    have k1 := hv.cell 1
    have k2 := hv.cell 2
    have k3 := hv.cell 3
    have k4 := hv.cell 4
    simp at k0 k1 k2 k3 k4
    clear hv
    go_simp
  (try simp only [Act.put, List.setIfInBounds_toArray, List.set_cons_zero, List.set_cons_succ])
  refine wpAnyH_ready (rs := [2]) (by kernel_rfl) (by simp) ?_
  refine AllReadyH.cons rfl (fun K hK => ?_) AllReadyH.nil
  go_simp
  refine (HNW.out _).mono ?_
  rintro e V1 ⟨rfl, hp1, hb1⟩
  have h1 := h0.call hb1
  have HU1 := Lib.hid (HU0.out.trans (hb1.mono HU0.out.size))
  have HP1 := Lib.hid hp1
  have HZ1 := Lib.hid hb1.size
  clear hp1 hb1 h0
  refine hK _ _ h1 (fun _ => ?_)
  clear hK K
  (try simp only [Act.put, List.setIfInBounds_toArray, List.set_cons_zero, List.set_cons_succ])
  refine wpAnyH_ready (rs := [5]) (by kernel_rfl) (by simp) ?_
  refine AllReadyH.cons rfl (fun K hK => ?_) AllReadyH.nil
  go_simp
  refine (HNW.out _).mono ?_
  rintro e V2 ⟨rfl, hq2, hb2⟩
  have h2 := h1.call hb2
  have HU2 := Lib.hid (HU1.out.trans (hb2.mono HU1.out.size))
  have HQ2 := Lib.hid hq2
  have HZ2 := Lib.hid hb2.size
  have HP2 := Lib.hid (HP1.out.touch (P := fun _ => False) (Touch.of_below hb2) id id (fun _ _ => id))
  clear hq2 hb2 h1
  refine hK _ _ h2 (fun _ => ?_)
  clear hK K
  (try simp only [Act.put, List.setIfInBounds_toArray, List.set_cons_zero, List.set_cons_succ])
  refine wpAnyH_ready (rs := [6]) (by kernel_rfl) (by simp) ?_
  refine AllReadyH.cons rfl (fun K hK => ?_) AllReadyH.nil
  go_simp
  refine hK _ _ h2 (fun _ => ?_)
  clear hK K
  (try simp only [Act.put, List.setIfInBounds_toArray, List.set_cons_zero, List.set_cons_succ])
  refine wpAnyH_ready (rs := [7]) (by kernel_rfl) (by simp) ?_
  refine AllReadyH.cons rfl (fun K hK => ?_) AllReadyH.nil
  go_simp
  refine hK _ _ h2 (fun _ => ?_)
  clear hK K
  (try simp only [Act.put, List.setIfInBounds_toArray, List.set_cons_zero, List.set_cons_succ])
  refine wpAnyH_done (by kernel_rfl) ?_ _
  clear h2
  cases J2 with
  | false =>
    have HM2 := Lib.hid (mx_below HM.out HU2.out)
    go_wp2_with (go_at_call 11; refine (HLV.out _ HM2.out).mono ?_; rintro e5 w5 ⟨rfl, hb5⟩; have HU5 := Lib.hid (HU2.out.trans (hb5.mono HU2.out.size)); clear hb5)
    go_ret
    exact ⟨rfl, HU5.out⟩
  | true =>
    by_cases hj0 : J1.data.toList = []
    · have he : J1.toList.isEmpty = true := by rw [isEmpty_list, hj0]; rfl
      have HM2 := Lib.hid (mx_below HM.out HU2.out)
      go_wp2_with (go_at_call 11; refine (HLV.out _ HM2.out).mono ?_; rintro e5 w5 ⟨rfl, hb5⟩; have HU5 := Lib.hid (HU2.out.trans (hb5.mono HU2.out.size)); clear hb5)
      go_ret
      exact ⟨rfl, HU5.out⟩
    have he : J1.toList.isEmpty = false := by
      rw [isEmpty_list]
      cases e : J1.data.toList with
      | nil => exact absurd e hj0
      | cons x r => rfl
    obtain ⟨hj1, hj2, hj3, hj4⟩ := HJO.out rfl
    have hj5 : l.length ≤ 300 := by have := hj3 (by decide); omega
    have hj1 : J1.data.toList = octs l := by simpa using hj1
    have hne : l ≠ [] := octs_nil (by rw [← hj1]; exact hj0)
    have hoc : octs [J1] = octs l := by rw [octs_one]; exact hj1
    obtain ⟨RN, hRN⟩ : ∃ n, n = (pRun kind fields fold (octs l) (pa0 a)).2 := ⟨_, rfl⟩
    obtain ⟨RP, hRP⟩ : ∃ q, q = (pRun kind fields fold (octs l) (pa0 a)).1 := ⟨_, rfl⟩
    have hp2 := HP2.out.raise (B' := V2.heap.size) ⟨rfl, rfl, rfl⟩ (by have := HZ1.out; have := HP2.out.k.lt; have := HZ2.out; have := HQ2.out.k.lt; omega) (Nat.le_refl _)
    have hsl : ∀ W, Below w.heap.size w W → Strs W v l := fun W h => HSW.out.below h
    obtain ⟨bP, hbP⟩ : ∃ n, n = V0.heap.size + 2 := ⟨_, rfl⟩
    obtain ⟨gP, hgP⟩ : ∃ n, n = V0.heap.size + 1 := ⟨_, rfl⟩
    obtain ⟨bQ, hbQ⟩ : ∃ n, n = V1.heap.size + 2 := ⟨_, rfl⟩
    obtain ⟨gQ, hgQ⟩ : ∃ n, n = V1.heap.size + 1 := ⟨_, rfl⟩
    have hq2 := HQ2.out
    have hV1 : V0.heap.size + 3 ≤ V1.heap.size := by have := HP1.out.k.lt; omega
    have hV2 : V1.heap.size + 3 ≤ V2.heap.size := by have := HQ2.out.k.lt; omega
    have hV0 : w.heap.size ≤ V0.heap.size := HU0.out.size
    rw [← hbP, ← hgP] at hp2
    rw [← hbQ, ← hgQ] at hq2
    rw [← hbP, ← hbQ]
    have hM2 := mx_below HM.out HU2.out
    have hPQ : bP + 1 ≤ V1.heap.size ∧ gP < bP ∧ V1.heap.size < gQ ∧ gQ < bQ ∧ bQ < V2.heap.size ∧ w.heap.size < gP := by omega
    obtain ⟨BQ, hBQ⟩ : ∃ n, n = V1.heap.size + 3 := ⟨_, rfl⟩
    rw [← hBQ] at hq2
    have hBQ2 : BQ ≤ V2.heap.size ∧ bQ < BQ := by omega
    -- p is fed
    have HFP : Hid (Calls Tryd.prog 12 #[.pointer (some ⟨bP, 0, none⟩), v] V2 fun e w' => e = .returned (.tuple #[.int .i64 (RN : Int), .int .i64 RP.e]) ∧ ∃ vl va vf, PaAt w' bP gP V2.heap.size vl va vf kind a fields c d fold RP ∧ PaBd RP ∧ PaAt w' bQ gQ BQ nilS nilS nilS kind a fields c d fold (pa0 a) ∧ Below w.heap.size w w' ∧ V2.heap.size ≤ w'.heap.size) := by
      have := feed_all hp2 HBD.out hfi hM2 v l (fun V t => hsl V (HU2.out.trans (paP_below t (N := w.heap.size) (by omega) (by omega) (fun k hk => by cases hk) (fun k hk => by cases hk) HU2.out.size))) hj5 (fun t ht => Nat.le_trans (hj4 t ht) (by decide))
      rw [← hRN, ← hRP, if_neg hne] at this
      refine this.mono ?_
      rintro e w' ⟨rfl, vl, va, vf, h1, h2, t, _, _⟩
      refine ⟨rfl, vl, va, vf, h1, h2, hq2.touch t ?_ ?_ ?_, HU2.out.trans (paP_below t (N := w.heap.size) (by omega) (by omega) (fun k hk => by cases hk) (fun k hk => by cases hk) HU2.out.size), t.size⟩
      · rintro (e | e | e | e)
        · omega
        · omega
        · cases e
        · cases e
      · rintro (e | e | e | e)
        · omega
        · omega
        · cases e
        · cases e
      · rintro k hk (e | e | e | e)
        · omega
        · omega
        · cases e
        · cases e
    have HFQ := Lib.hid (fun (W : World) (h : PaAt W bQ gQ BQ nilS nilS nilS kind a fields c d fold (pa0 a)) (h0 : W.cell? ⟨0, 0, none⟩ = some (.int .i64 mx)) (x : Value) (hx : ∀ V, Touch (PaP bQ gQ nilS nilS) W V → Strs V x [J1]) => (show Calls Tryd.prog 12 #[.pointer (some ⟨bQ, 0, none⟩), x] W (fun e w' => e = .returned (.tuple #[.int .i64 (RN : Int), .int .i64 RP.e]) ∧ ∃ vl va vf, PaAt w' bQ gQ BQ vl va vf kind a fields c d fold RP ∧ Touch (PaP bQ gQ nilS nilS) W w') by
      have := feed_all h HBD.out hfi h0 x [J1] hx (by show 1 ≤ 300; decide) (fun t ht => by rw [List.mem_singleton] at ht; subst ht; exact hj2)
      rw [hoc, ← hRN, ← hRP, if_neg (by simp)] at this
      refine this.mono ?_
      rintro e w' ⟨rfl, vl, va, vf, h1, _, t, _, _⟩
      exact ⟨rfl, vl, va, vf, h1, t⟩))
    obtain ⟨DN, hDN⟩ : ∃ b, b = (RP.fin && RP.e == 0) := ⟨_, rfl⟩
    obtain ⟨BG, hBG⟩ : ∃ b, b = (!RP.all.isEmpty || RP.fin || RP.ln.within) := ⟨_, rfl⟩
    have HDC := Lib.hid (fun (W : World) (b g B : Nat) (vl va vf : Value) (h : PaAt W b g B vl va vf kind a fields c d fold RP) => hdone_any h)
    have HBC := Lib.hid (fun (W : World) (b g B : Nat) (vl va vf : Value) (h : PaAt W b g B vl va vf kind a fields c d fold RP) => hbegun_any h)
    rw [← hDN] at HDC
    rw [← hBG] at HBC
    have HHC := Lib.hid (fun (W : World) (b g B : Nat) (vl va vf : Value) (h : PaAt W b g B vl va vf kind a fields c d fold RP) (hl : RP.hd.fs.length ≤ 1000000) => hhead_any h hl)
    obtain ⟨H, hH⟩ : ∃ H, H = doneH RP := ⟨_, rfl⟩
    rw [← hH] at HHC
    have HHL := Lib.hid (doneH_len2 RP)
    rw [← hH] at HHL
    have HSM := Lib.hid (fun (W : World) (f f' : Value) (h1 : Flds W f H.fs) (h2 : Flds W f' H.fs) (hl : H.fs.length ≤ 1000000) => hsame_self H f f' W h1 h2 hl)
    obtain ⟨qm, qt, qk, qn, qr, qf⟩ := H
    simp only [Hd.row] at HSM HHC HHL
    obtain ⟨ER, hER⟩ : ∃ x, x = RP.e := ⟨_, rfl⟩
    rw [← hER] at HFP HFQ
    have HPQ := Lib.hid (And.intro hPQ hBQ2)
    clear hj1 hj2 hj3 hj4 hj5 hne hoc hRN hRP hp2 hsl hbP hgP hbQ hgQ hq2 hV1 hV2 hV0 hM2 hPQ hBQ hBQ2 hDN hBG hH hER HJO hfi hl
    go_wp2_with (first
      | (go_at_call 12; refine HFP.out.mono ?_; rintro e3 w3 ⟨rfl, vl3, va3, vf3, hp3, hbd3, hq3, hu3, hz3⟩; have HP3 := Lib.hid hp3; have HBD3 := Lib.hid hbd3.f; have HQ3 := Lib.hid (hq3.touch (P := fun _ => False) ((Touch.refl _ w3).alloc (.cells #[.string J1] 9)) id id (fun _ _ => id)); have HU := Lib.hid hu3; have HZ3 := Lib.hid hz3; have HM3 := Lib.hid (mx_below HM.out (hu3.alloc hu3.size (.cells #[.string J1] 9))); clear hp3 hbd3 hq3 hu3 hz3 HFP)
      | (go_at_call 12; refine (HFQ.out _ HQ3.out HM3.out _ (fun V t => strs_one t (paP_nil (by have := HPQ.out; have := HZ3.out; omega) (by have := HPQ.out; have := HZ3.out; omega)))).mono ?_; rintro e4 w4 ⟨rfl, vl4, va4, vf4, hq4, t4⟩; have HQ4 := Lib.hid hq4; have HP4 := Lib.hid ((HP3.out.touch (P := fun _ => False) ((Touch.refl _ w3).alloc (.cells #[.string J1] 9)) id id (fun _ _ => id)).touch t4 (paP_nil (by have := HPQ.out; omega) (by have := HPQ.out; omega)) (paP_nil (by have := HPQ.out; omega) (by have := HPQ.out; omega)) (fun k hk => paP_nil (by have := HPQ.out; omega) (by have := HPQ.out; omega))); have HU := Lib.hid (HU.out.alloc HU.out.size (.cells #[.string J1] 9) |>.trans (paP_below t4 (N := w.heap.size) (by have := HPQ.out; omega) (by have := HPQ.out; omega) (fun k hk => by cases hk) (fun k hk => by cases hk) (Nat.le_trans HU.out.size (by simp)))); have HDP := Lib.hid (HDC.out _ _ _ _ _ _ _ HP4.out); have HDQ := Lib.hid (HDC.out _ _ _ _ _ _ _ HQ4.out); have HHP := Lib.hid (HHC.out _ _ _ _ _ _ _ HP4.out (Nat.le_trans HBD3.out (by decide))); clear hq4 t4)
      | (go_at_call 6; refine HDP.out.mono ?_; rintro e5 w5 ⟨rfl, h5⟩; subst h5; clear HDP)
      | (go_at_call 6; refine HDQ.out.mono ?_; rintro e5 w5 ⟨rfl, h5⟩; subst h5; clear HDQ)
      | (go_at_call 9; refine HHP.out.mono ?_; rintro e6 w6 ⟨f6, rfl, ho6, hb6⟩; obtain ⟨p6, c6, rfl⟩ := own_slice ho6; have HF6 := Lib.hid ho6.flds; have HP6 := Lib.hid (HP4.out.touch (P := fun _ => False) (Touch.of_below hb6) id id (fun _ _ => id)); have HQ6 := Lib.hid (HQ4.out.touch (P := fun _ => False) (Touch.of_below hb6) id id (fun _ _ => id)); have HU := Lib.hid (HU.out.trans (hb6.mono HU.out.size)); have HHQ := Lib.hid (HHC.out _ _ _ _ _ _ _ HQ6.out (Nat.le_trans HBD3.out (by decide))); clear ho6 hb6 HHP)
      | (go_at_call 9; refine HHQ.out.mono ?_; rintro e7 w7 ⟨f7, rfl, ho7, hb7⟩; obtain ⟨p7, c7, rfl⟩ := own_slice ho7; have HF67 := Lib.hid (HF6.out.below hb7); have HF7 := Lib.hid ho7.flds; have HP7 := Lib.hid (HP6.out.touch (P := fun _ => False) (Touch.of_below hb7) id id (fun _ _ => id)); have HQ7 := Lib.hid (HQ6.out.touch (P := fun _ => False) (Touch.of_below hb7) id id (fun _ _ => id)); have HU := Lib.hid (HU.out.trans (hb7.mono HU.out.size)); clear ho7 hb7 HHQ)
      | (go_at_call 8; refine (HSM.out _ _ _ HF67.out HF7.out (by have h1 := HHL.out; have h2 := HBD3.out; omega)).mono ?_; rintro e8 w8 ⟨rfl, hb8⟩; have HBP := Lib.hid (HBC.out _ _ _ _ _ _ _ (HP7.out.touch (P := fun _ => False) (Touch.of_below hb8) id id (fun _ _ => id))); have HBQ := Lib.hid (HBC.out _ _ _ _ _ _ _ (HQ7.out.touch (P := fun _ => False) (Touch.of_below hb8) id id (fun _ _ => id))); have HU := Lib.hid (HU.out.trans (hb8.mono HU.out.size)); have HM8 := Lib.hid (mx_below HM.out HU.out); clear hb8)
      | (go_at_call 7; refine HBP.out.mono ?_; rintro e9 w9 ⟨rfl, h9⟩; subst h9; clear HBP)
      | (go_at_call 7; refine HBQ.out.mono ?_; rintro e9 w9 ⟨rfl, h9⟩; subst h9; clear HBQ)
      | (go_at_call 11; refine (HLV.out _ HM8.out).mono ?_; rintro eA wA ⟨rfl, hbA⟩; have HU := Lib.hid (HU.out.trans (hbA.mono HU.out.size)); clear hbA))
    go_ret
    exact ⟨by simp, HU.out⟩
end Go.Proofs.YtcgjpkkhebpdfaaDoor

/- Texts packed for one claim, 47 of 47: MsX. -/
import Derived.Test.YteloccgdafphfaaGreatDoorMsgQ45
import Derived.Test.YteloccgdafphfaaGreatDoorMsgQ46
import Derived.Test.YteloccgdafphfaaGreatDoorMsgQ38
import Derived.Test.YteloccgdafphfaaGreatDoorMsgQ2
import Derived.Test.YteloccgdafphfaaGreatDoorMsgQ25
import Derived.Deep.DeepCutAuto
set_option linter.unusedSimpArgs false
set_option linter.unusedVariables false
-- MsX
namespace Go.Proofs.YteloccgdafphfaaGreatDoor
open Go.RowKit
theorem own_tail3 {w : World} {B : Nat} {v : Value} {l : List (MsgP × MsgV)} (o : OwnM w B v l) (i : ∀ q ∈ l, MsgIn w B q) {g : Nat} {cs : Array Value} (k : Blk w g cs 31) (x y z : Value) : Msgs (((w.setCell ⟨g, 0, none⟩ x).setCell ⟨g, 1, none⟩ y).setCell ⟨g, 2, none⟩ z) v l := by
  have T : Touch (fun j => j = g) w (((w.setCell ⟨g, 0, none⟩ x).setCell ⟨g, 1, none⟩ y).setCell ⟨g, 2, none⟩ z) := (((Touch.refl (fun j => j = g) w).setCell (p := ⟨g, 0, none⟩) rfl _).setCell (p := ⟨g, 1, none⟩) rfl _).setCell (p := ⟨g, 2, none⟩) rfl _
  have hP : OfTy w (fun j => j = g) [31] := fun j e => ⟨_, _, by decide, e ▸ k⟩
  have o' : OwnM _ B v l := own_touch o T (hP.own o (by decide))
  refine o'.msgs (B := B) (fun q hq => ?_)
  have hi := i q hq
  exact ⟨own_touch hi.1 T (hP.own hi.1 (by decide)), own_touch hi.2.1 T (hP.own hi.2.1 (by decide)), own_touch hi.2.2 T (hP.own hi.2.2 (by decide))⟩
theorem OwnM.call {w w1 : World} {B : Nat} {v : Value} {l : List (MsgP × MsgV)} (h : OwnM w B v l) (hb : Below w.heap.size w w1) : OwnM w1 B v l := own_touch h (P := fun _ => False) (Touch.of_below hb) (fun _ _ => id)
/-- Texts of a beginning. -/
theorem pre_list (x : ByteArray) (k : Nat) : ∃ q, x.data.toList = (x.extract 0 k).data.toList ++ q := ⟨x.data.toList.drop k, by rw [Lib.extract_data, List.drop_zero, Nat.sub_zero, List.take_append_drop]⟩
set_option maxRecDepth 100000 in
set_option maxHeartbeats 16000000 in
theorem mgrows_any (x : ByteArray) (closed : Bool) (vm : Value) (ms : List ByteArray) (a fields c d fold cut : Int) (w : World) (hv : Strs w vm ms) (hml : ms.length ≤ 9223372036854775807) (hfi : -9223372036854775808 ≤ fields ∧ fields ≤ 9223372036854775807) {mx : Int} (hm : w.cell? ⟨0, 0, none⟩ = some (.int .i64 mx)) :
    Calls Tryz.prog 5 #[.agg #[.string x, .bool closed, vm, .int .i64 a, .int .i64 fields, .int .i64 c, .int .i64 d, .int .i64 fold, .int .i64 cut]] w fun e w' => e = .returned (.bool true) ∧ Below w.heap.size w w' := by
  have hw : 0 < w.heap.size := World.block_lt_of_cell? w _ hm
  have HLV : Hid (∀ W, Below w.heap.size w W → Calls Tryz.prog 10 #[] W fun e w' => e = .returned (.bool true) ∧ Below W.heap.size W w') := fun W hW => mlives_any (mx_below' hm hw hW)
  obtain ⟨F, hF⟩ : ∃ F, F = fewC x ms := ⟨_, rfl⟩
  have HFW : Hid (∀ W, Below w.heap.size w W → Calls Tryz.prog 9 #[.agg #[.string x, .bool closed, vm, .int .i64 a, .int .i64 fields, .int .i64 c, .int .i64 d, .int .i64 fold, .int .i64 cut]] W fun e w' => e = .returned (.bool F) ∧ Below W.heap.size W w') := by
    show ∀ W, _ → _
    intro W hW
    rw [hF]
    exact mfew_any x closed vm ms a fields c d fold cut W (hv.below hW) hml
  obtain ⟨pm, cm, rfl, hmc⟩ := hv
  have HV := Lib.hid (show Strs w (.slice pm ms.length cm) ms from ⟨pm, cm, rfl, hmc⟩)
  obtain ⟨nm, hnm⟩ : ∃ n, n = ms.length := ⟨_, rfl⟩
  rw [← hnm] at HFW HV ⊢
  have HA := Lib.hid ((Below.refl w.heap.size w).alloc (Nat.le_refl _) (.cells #[.string x, .bool closed, .slice pm nm cm, .int .i64 a, .int .i64 fields, .int .i64 c, .int .i64 d, .int .i64 fold, .int .i64 cut] 26))
  have KC := Lib.hid (Blk.new w #[.string x, .bool closed, .slice pm nm cm, .int .i64 a, .int .i64 fields, .int .i64 c, .int .i64 d, .int .i64 fold, .int .i64 cut] 26)
  have HM := Lib.hid hm
  have H0 := Lib.hid hw
  have HF := Lib.hid hF
  have HFI := Lib.hid hfi
  clear hmc hm hw hfi hml hF
  cases F with
  | false =>
    clear HF hnm
    go_enter Tryz.func5, Tryz.ntmps5
    go_wp2_with (first | (go_at_call 9; refine (HFW.out _ HA.out).mono ?_; rintro e1 w1 ⟨rfl, hb1⟩; have K1 := Lib.hid (KC.out.call hb1); have B1 := Lib.hid (HA.out.trans (hb1.mono HA.out.size)); clear hb1; have k0 := K1.out.cell 0; have k8 := K1.out.cell 8; simp at k0 k8) | (go_at_call 10; refine (HLV.out _ B1.out).mono ?_; rintro e9 w9 ⟨rfl, hb9⟩; have B9 := Lib.hid ((B1.out).trans (hb9.mono (B1.out).size)); clear hb9))
    go_ret
    exact ⟨rfl, B9.out⟩
  | true =>
  obtain ⟨hx, hms, _⟩ := fewC_spec HF.out.symm
  by_cases hc0 : cut < 0
  · have e0 : decide (cut < 0) = true := decide_eq_true hc0
    clear HF hnm hms
    go_enter Tryz.func5, Tryz.ntmps5
    go_wp2_with (first | (go_at_call 9; refine (HFW.out _ HA.out).mono ?_; rintro e1 w1 ⟨rfl, hb1⟩; have K1 := Lib.hid (KC.out.call hb1); have B1 := Lib.hid (HA.out.trans (hb1.mono HA.out.size)); clear hb1; have k0 := K1.out.cell 0; have k8 := K1.out.cell 8; simp at k0 k8) | (go_at_call 10; refine (HLV.out _ B1.out).mono ?_; rintro e9 w9 ⟨rfl, hb9⟩; have B9 := Lib.hid ((B1.out).trans (hb9.mono (B1.out).size)); clear hb9))
    go_ret
    exact ⟨rfl, B9.out⟩
  have e0 : decide (cut < 0) = false := decide_eq_false hc0
  by_cases hcx : (x.size : Int) < cut
  · have e1 : decide ((x.size : Int) < cut) = true := decide_eq_true hcx
    clear HF hnm hms
    go_enter Tryz.func5, Tryz.ntmps5
    go_wp2_with (first | (go_at_call 9; refine (HFW.out _ HA.out).mono ?_; rintro e1 w1 ⟨rfl, hb1⟩; have K1 := Lib.hid (KC.out.call hb1); have B1 := Lib.hid (HA.out.trans (hb1.mono HA.out.size)); clear hb1; have k0 := K1.out.cell 0; have k8 := K1.out.cell 8; simp at k0 k8) | (go_at_call 10; refine (HLV.out _ B1.out).mono ?_; rintro e9 w9 ⟨rfl, hb9⟩; have B9 := Lib.hid ((B1.out).trans (hb9.mono (B1.out).size)); clear hb9))
    go_ret
    exact ⟨rfl, B9.out⟩
  have e1 : decide ((x.size : Int) < cut) = false := decide_eq_false hcx
  obtain ⟨k, rfl⟩ : ∃ k : Nat, cut = (k : Int) := ⟨cut.toNat, by omega⟩
  have hkx : k ≤ x.size := by omega
  obtain ⟨Pq, hPq⟩ := pre_list x k
  obtain ⟨P, hP, hPz, hsl⟩ := cut_to x k hkx
  have hPe : P = x.extract 0 k := by
    apply ext_list
    rw [hP, Lib.extract_data, List.drop_zero, Nat.sub_zero]
  rw [← hPe] at hPq
  have e2 : decide (x.size < k) = false := decide_eq_false (by omega)
  have HSL := Lib.hid hsl
  obtain ⟨⟨L1, a1, b1, z1⟩, hR1⟩ : ∃ R, reqsP ⟨a, fields, c, d, fold⟩ false (P.size + 1) P.data.toList 0 [] = R := ⟨_, rfl⟩
  obtain ⟨⟨L2, a2, b2, z2⟩, hR2⟩ : ∃ R, reqsP ⟨a, fields, c, d, fold⟩ closed (x.size + 1) x.data.toList 0 [] = R := ⟨_, rfl⟩
  obtain ⟨⟨L3, a3, b3, z3⟩, hS1⟩ : ∃ R, respsP ⟨a, fields, c, d, fold⟩ false (P.size + 1) ms P.data.toList 0 [] = R := ⟨_, rfl⟩
  obtain ⟨⟨L4, a4, b4, z4⟩, hS2⟩ : ∃ R, respsP ⟨a, fields, c, d, fold⟩ closed (x.size + 1) ms x.data.toList 0 [] = R := ⟨_, rfl⟩
  have hPl := Lib.size_eq P
  have hxl := Lib.size_eq x
  have G1 : Hid (Grown (L1, a1, b1, z1) (L2, a2, b2, z2)) := by
    show Grown (L1, a1, b1, z1) (L2, a2, b2, z2)
    rw [← hR1, ← hR2, hPq]
    exact reqs_grow _ closed _ _ _ _ 0 [] (by omega) (by rw [← hPq]; omega)
  have G2 : Hid (Grown (L3, a3, b3, z3) (L4, a4, b4, z4)) := by
    show Grown (L3, a3, b3, z3) (L4, a4, b4, z4)
    rw [← hS1, ← hS2, hPq]
    exact resps_grow _ closed _ ms _ _ _ 0 [] (by omega) (by rw [← hPq]; omega)
  have OK1 : Hid (∀ M ∈ L1, MsgOk M) := by
    show ∀ M ∈ L1, MsgOk M
    have := reqsP_ok ⟨a, fields, c, d, fold⟩ false (P.size + 1) P.data.toList 0 [] (by omega) (fun q hq => by cases hq)
    rw [hR1] at this
    exact this
  have OK2 : Hid (∀ M ∈ L3, MsgOk M) := by
    show ∀ M ∈ L3, MsgOk M
    have := respsP_ok ⟨a, fields, c, d, fold⟩ false (P.size + 1) ms P.data.toList 0 [] (by omega) (fun q hq => by cases hq)
    rw [hS1] at this
    exact this
  have LN1 : Hid (L1.length ≤ 1000000) := by
    show _ ≤ _
    have := reqsP_len ⟨a, fields, c, d, fold⟩ false (P.size + 1) P.data.toList 0 []
    rw [hR1] at this
    simp only [List.length_nil] at this
    omega
  have LN2 : Hid (L3.length ≤ 1000000) := by
    show _ ≤ _
    have := respsP_len ⟨a, fields, c, d, fold⟩ false (P.size + 1) ms P.data.toList 0 []
    rw [hS1] at this
    simp only [List.length_nil] at this
    omega
  have hx5 : x.size ≤ 100000 := by omega
  have hP5 : P.size ≤ 100000 := by omega
  have hm5 : ms.length ≤ 100000 := by omega
  clear hPq hP hPz hsl hPe
  have HQ : Hid (∀ (w1 V : World), Below w.heap.size w w1 → Below w1.heap.size w1 V → Calls Tryz.prog 11 #[.string P, .bool false, .agg #[.int .i64 a, .int .i64 fields, .int .i64 c, .int .i64 d, .int .i64 fold]] V fun e w' => ∃ v l, e = .returned (.tuple #[v, .agg #[.int .i64 a1, .int .i64 (b1 : Int), .int .i64 z1]]) ∧ l.map (·.1) = L1 ∧ OwnM w' V.heap.size v l ∧ (∀ q ∈ l, MsgIn w' V.heap.size q) ∧ Below V.heap.size V w') := fun w1 V h1 h2 => mreqs_any P false a fields c d fold V HFI.out (mx_below' HM.out H0.out (h1.trans (h2.mono h1.size))) hP5 hR1
  have HQ2 : Hid (∀ (V : World), Below w.heap.size w V → Calls Tryz.prog 11 #[.string x, .bool closed, .agg #[.int .i64 a, .int .i64 fields, .int .i64 c, .int .i64 d, .int .i64 fold]] V fun e w' => ∃ v l, e = .returned (.tuple #[v, .agg #[.int .i64 a2, .int .i64 (b2 : Int), .int .i64 z2]]) ∧ l.map (·.1) = L2 ∧ OwnM w' V.heap.size v l ∧ (∀ q ∈ l, MsgIn w' V.heap.size q) ∧ Below V.heap.size V w') := fun V h1 => mreqs_any x closed a fields c d fold V HFI.out (mx_below' HM.out H0.out h1) hx5 hR2
  have HP : Hid (∀ (w1 V : World), Below w.heap.size w w1 → Below w1.heap.size w1 V → Calls Tryz.prog 14 #[.string P, .bool false, .slice pm nm cm, .agg #[.int .i64 a, .int .i64 fields, .int .i64 c, .int .i64 d, .int .i64 fold]] V fun e w' => ∃ v l, e = .returned (.tuple #[v, .agg #[.int .i64 a3, .int .i64 (b3 : Int), .int .i64 z3]]) ∧ l.map (·.1) = L3 ∧ OwnM w' V.heap.size v l ∧ (∀ q ∈ l, MsgIn w' V.heap.size q) ∧ Below V.heap.size V w') := fun w1 V h1 h2 => mresps_any P false _ ms a fields c d fold V (HV.out.below (h1.trans (h2.mono h1.size))) hm5 HFI.out (mx_below' HM.out H0.out (h1.trans (h2.mono h1.size))) hP5 hS1
  have HP2 : Hid (∀ (V : World), Below w.heap.size w V → Calls Tryz.prog 14 #[.string x, .bool closed, .slice pm nm cm, .agg #[.int .i64 a, .int .i64 fields, .int .i64 c, .int .i64 d, .int .i64 fold]] V fun e w' => ∃ v l, e = .returned (.tuple #[v, .agg #[.int .i64 a4, .int .i64 (b4 : Int), .int .i64 z4]]) ∧ l.map (·.1) = L4 ∧ OwnM w' V.heap.size v l ∧ (∀ q ∈ l, MsgIn w' V.heap.size q) ∧ Below V.heap.size V w') := fun V h1 => mresps_any x closed _ ms a fields c d fold V (HV.out.below h1) hm5 HFI.out (mx_below' HM.out H0.out h1) hx5 hS2
  clear HF hms hx hnm hc0 hcx hR1 hR2 hS1 hS2 hPl hxl hx5 hP5 hm5 hkx
  go_enter Tryz.func5, Tryz.ntmps5
  go_upto_region 3 with (first | (go_at_call 9; refine (HFW.out _ HA.out).mono ?_; rintro e1 w1 ⟨rfl, hb1⟩; have K1 := Lib.hid (KC.out.call hb1); have B1 := Lib.hid (HA.out.trans (hb1.mono HA.out.size)); clear hb1; have k0 := K1.out.cell 0; have k8 := K1.out.cell 8; simp at k0 k8))
  clear k0 k8
  go_cut [3, 4] (fun v3 v4 W => TailAt L1 a1 b1 z1 w1.heap.size v3 v4 W ∧ Below w1.heap.size w1 W)
  case first =>
    refine wp_region_at (S := fun v => Below w1.heap.size w1 v) (by kernel_rfl) ?_
    intro V0 hV0
    have h0 : Below w1.heap.size w1 V0 := by rw [hV0]; exact (Below.refl _ _).drew
    clear hV0
    refine wpAnyH_take (i := 0) (v := .pointer (some ⟨w.heap.size, 0, none⟩)) rfl (by kernel_rfl) (by kernel_rfl) (by kernel_rfl) (fun _ _ _ h => h) (Or.inl ⟨by kernel_rfl, ?hyh22⟩) h0 ?resth22
    case hyh22 =>
      intro v hv
      clear hv
      go_simp
    (try simp only [Act.put, List.setIfInBounds_toArray, List.set_cons_zero, List.set_cons_succ])
    refine wpAnyH_take (i := 1) (v := .string x) rfl (by kernel_rfl) (by kernel_rfl) (by kernel_rfl) (fun _ _ _ h => h) (Or.inl ⟨by kernel_rfl, ?hyh23⟩) h0 ?resth23
    case hyh23 =>
      intro v hv
      have q0 := (K1.out.call hv).cell 0
      simp at q0
      clear hv
      go_simp
    (try simp only [Act.put, List.setIfInBounds_toArray, List.set_cons_zero, List.set_cons_succ])
    refine wpAnyH_take (i := 2) (v := .pointer (some ⟨w.heap.size, 8, none⟩)) rfl (by kernel_rfl) (by kernel_rfl) (by kernel_rfl) (fun _ _ _ h => h) (Or.inl ⟨by kernel_rfl, ?hyh24⟩) h0 ?resth24
    case hyh24 =>
      intro v hv
      clear hv
      go_simp
    (try simp only [Act.put, List.setIfInBounds_toArray, List.set_cons_zero, List.set_cons_succ])
    refine wpAnyH_take (i := 3) (v := .int .i64 (k : Int)) rfl (by kernel_rfl) (by kernel_rfl) (by kernel_rfl) (fun _ _ _ h => h) (Or.inl ⟨by kernel_rfl, ?hyh25⟩) h0 ?resth25
    case hyh25 =>
      intro v hv
      have q8 := (K1.out.call hv).cell 8
      simp at q8
      clear hv
      go_simp
    (try simp only [Act.put, List.setIfInBounds_toArray, List.set_cons_zero, List.set_cons_succ])
    refine wpAnyH_take (i := 4) (v := .string P) rfl (by kernel_rfl) (by kernel_rfl) (by kernel_rfl) (fun _ _ _ h => h) (Or.inl ⟨by kernel_rfl, ?hyh26⟩) h0 ?resth26
    case hyh26 =>
      intro v hv
      have q := HSL.out
      clear hv
      go_simp
    (try simp only [Act.put, List.setIfInBounds_toArray, List.set_cons_zero, List.set_cons_succ])
    refine wpAnyH_take (i := 5) (v := .pointer (some ⟨w.heap.size, 3, none⟩)) rfl (by kernel_rfl) (by kernel_rfl) (by kernel_rfl) (fun _ _ _ h => h) (Or.inl ⟨by kernel_rfl, ?hyh27⟩) h0 ?resth27
    case hyh27 =>
      intro v hv
      clear hv
      go_simp
    (try simp only [Act.put, List.setIfInBounds_toArray, List.set_cons_zero, List.set_cons_succ])
    refine wpAnyH_take (i := 6) (v := .agg #[.int .i64 a, .int .i64 fields, .int .i64 c, .int .i64 d, .int .i64 fold]) rfl (by kernel_rfl) (by kernel_rfl) (by kernel_rfl) (fun _ _ _ h => h) (Or.inl ⟨by kernel_rfl, ?hyh28⟩) h0 ?resth28
    case hyh28 =>
      intro v hv
      have q3 := (K1.out.call hv).cell 3
      have q4 := (K1.out.call hv).cell 4
      have q5 := (K1.out.call hv).cell 5
      have q6 := (K1.out.call hv).cell 6
      have q7 := (K1.out.call hv).cell 7
      simp at q3 q4 q5 q6 q7
      clear hv
      go_simp
    (try simp only [Act.put, List.setIfInBounds_toArray, List.set_cons_zero, List.set_cons_succ])
    refine wpAnyH_ready (rs := [7, 11]) (by kernel_rfl) (by simp) ?_
    refine AllReadyH.cons rfl (fun K hK => ?_) (AllReadyH.cons rfl (fun K hK => ?_) AllReadyH.nil)
    · go_simp
      refine (HQ.out w1 V0 B1.out h0).mono ?_
      rintro e V1 ⟨v, l, rfl, hl, ho, hi, hb⟩
      obtain ⟨pl, cl, rfl, hcap, hnil⟩ := ho.cap
      have h1 : Below w1.heap.size w1 V1 := h0.trans (hb.mono h0.size)
      have ML := Lib.hid (show OwnM V1 V0.heap.size _ l from ho)
      have MI := Lib.hid hi
      have HL := Lib.hid hl
      have HC := Lib.hid hcap
      have HN := Lib.hid hnil
      refine hK _ _ h1 (fun _ => ?_)
      clear hK K h0 hl ho hi hb hcap hnil
      (try simp only [Act.put, List.setIfInBounds_toArray, List.set_cons_zero, List.set_cons_succ])
      refine wpAnyH_take (i := 8) (v := .tuple #[.slice pl l.length cl, .agg #[.int .i64 a1, .int .i64 (b1 : Int), .int .i64 z1]]) rfl (by kernel_rfl) (by kernel_rfl) (by kernel_rfl) (fun _ _ _ h => h) (Or.inl ⟨by kernel_rfl, ?hyh29⟩) h1 ?resth29
      case hyh29 =>
        intro v hv
        clear hv
        go_simp
      (try simp only [Act.put, List.setIfInBounds_toArray, List.set_cons_zero, List.set_cons_succ])
      refine wpAnyH_take (i := 9) (v := .slice pl l.length cl) rfl (by kernel_rfl) (by kernel_rfl) (by kernel_rfl) (fun _ _ _ h => h) (Or.inl ⟨by kernel_rfl, ?hyh30⟩) h1 ?resth30
      case hyh30 =>
        intro v hv
        clear hv
        go_simp
      (try simp only [Act.put, List.setIfInBounds_toArray, List.set_cons_zero, List.set_cons_succ])
      refine wpAnyH_take (i := 10) (v := .agg #[.int .i64 a1, .int .i64 (b1 : Int), .int .i64 z1]) rfl (by kernel_rfl) (by kernel_rfl) (by kernel_rfl) (fun _ _ _ h => h) (Or.inl ⟨by kernel_rfl, ?hyh31⟩) h1 ?resth31
      case hyh31 =>
        intro v hv
        clear hv
        go_simp
      (try simp only [Act.put, List.setIfInBounds_toArray, List.set_cons_zero, List.set_cons_succ])
      refine wpAnyH_ready (rs := [11]) (by kernel_rfl) (by simp) ?_
      refine AllReadyH.cons rfl (fun K hK => ?_) AllReadyH.nil
      go_simp
      obtain ⟨g, hg⟩ : ∃ n, n = V1.heap.size := ⟨_, rfl⟩
      rw [← hg]
      obtain ⟨V2, hW⟩ : ∃ X, X = V1.alloc (.cells #[.int .i64 0, .int .i64 0, .int .i64 0] 31) := ⟨_, rfl⟩
      rw [← hW]
      have h2 : Below w1.heap.size w1 V2 := by rw [hW]; exact h1.alloc h1.size _
      have KT : Blk V2 g #[.int .i64 0, .int .i64 0, .int .i64 0] 31 := by rw [hW, hg]; exact Blk.new _ _ _
      have GG := Lib.hid (show w1.heap.size ≤ g by rw [hg]; exact h1.size)
      have hb2 : Below V1.heap.size V1 V2 := by rw [hW]; exact (Below.refl _ _).alloc (Nat.le_refl _) _
      replace ML := Lib.hid (ML.out.call hb2)
      replace MI := Lib.hid (fun q hq => (MI.out q hq).call hb2)
      clear hb2
      clear hW hg
      refine hK _ _ h2 (fun _ => ?_)
      clear hK K h1
      (try simp only [Act.put, List.setIfInBounds_toArray, List.set_cons_zero, List.set_cons_succ])
      refine wpAnyH_ready (rs := [12]) (by kernel_rfl) (by simp) ?_
      refine AllReadyH.cons rfl (fun K hK => ?_) AllReadyH.nil
      go_simp
      refine hK _ _ h2 (fun _ => ?_)
      clear hK K
      (try simp only [Act.put, List.setIfInBounds_toArray, List.set_cons_zero, List.set_cons_succ])
      refine wpAnyH_ready (rs := [13]) (by kernel_rfl) (by simp) ?_
      refine AllReadyH.cons rfl (fun K hK => ?_) AllReadyH.nil
      have cz0 := KT.cell 0
      have cz1 := KT.cell 1
      have cz2 := KT.cell 2
      simp at cz0 cz1 cz2
      have fz := KT.froz
      go_simp
      clear cz0 cz1 cz2 fz
      obtain ⟨V9, hW⟩ : ∃ X, X = (((V2.setCell ⟨g, 0, none⟩ (.int .i64 a1)).setCell ⟨g, 1, none⟩ (.int .i64 (b1 : Int))).setCell ⟨g, 2, none⟩ (.int .i64 z1)) := ⟨_, rfl⟩
      have h9 : Below w1.heap.size w1 V9 := by rw [hW]; exact ((h2.setCell (p := ⟨g, 0, none⟩) GG.out _).setCell (p := ⟨g, 1, none⟩) GG.out _).setCell (p := ⟨g, 2, none⟩) GG.out _
      have ML9 := Lib.hid (show Msgs V9 (.slice pl l.length cl) l by rw [hW]; exact own_tail3 ML.out MI.out KT _ _ _)
      have KT9 : Blk V9 g #[.int .i64 a1, .int .i64 (b1 : Int), .int .i64 z1] 31 := by rw [hW]; exact tail_set3 KT _ _ _
      rw [← hW]
      clear hW
      refine hK _ _ h9 (fun _ => ?_)
      clear hK K
      (try simp only [Act.put, List.setIfInBounds_toArray, List.set_cons_zero, List.set_cons_succ])
      refine wpAnyH_done (by kernel_rfl) ?_ _
      go_wp2_with fail
      go_meet
      case rel => exact ⟨⟨pl, cl, l, g, rfl, rfl, HL.out, HC.out, HN.out, ML9.out, KT9, GG.out⟩, h9⟩
    · go_simp
      obtain ⟨g, hg⟩ : ∃ n, n = V0.heap.size := ⟨_, rfl⟩
      rw [← hg]
      obtain ⟨V1, hW⟩ : ∃ X, X = V0.alloc (.cells #[.int .i64 0, .int .i64 0, .int .i64 0] 31) := ⟨_, rfl⟩
      rw [← hW]
      have h1 : Below w1.heap.size w1 V1 := by rw [hW]; exact h0.alloc h0.size _
      have KT : Blk V1 g #[.int .i64 0, .int .i64 0, .int .i64 0] 31 := by rw [hW, hg]; exact Blk.new _ _ _
      have GG := Lib.hid (show w1.heap.size ≤ g by rw [hg]; exact h0.size)
      clear hW hg
      refine hK _ _ h1 (fun _ => ?_)
      clear hK K h0
      (try simp only [Act.put, List.setIfInBounds_toArray, List.set_cons_zero, List.set_cons_succ])
      refine wpAnyH_ready (rs := [7]) (by kernel_rfl) (by simp) ?_
      refine AllReadyH.cons rfl (fun K hK => ?_) AllReadyH.nil
      go_simp
      refine (HQ.out w1 V1 B1.out h1).mono ?_
      rintro e V2 ⟨v, l, rfl, hl, ho, hi, hb⟩
      obtain ⟨pl, cl, rfl, hcap, hnil⟩ := ho.cap
      have h2 : Below w1.heap.size w1 V2 := h1.trans (hb.mono h1.size)
      have ML := Lib.hid (show OwnM V2 V1.heap.size _ l from ho)
      have MI := Lib.hid hi
      have HL := Lib.hid hl
      have HC := Lib.hid hcap
      have HN := Lib.hid hnil
      replace KT := KT.call hb
      refine hK _ _ h2 (fun _ => ?_)
      clear hK K h1 hl ho hi hb hcap hnil
      (try simp only [Act.put, List.setIfInBounds_toArray, List.set_cons_zero, List.set_cons_succ])
      refine wpAnyH_take (i := 8) (v := .tuple #[.slice pl l.length cl, .agg #[.int .i64 a1, .int .i64 (b1 : Int), .int .i64 z1]]) rfl (by kernel_rfl) (by kernel_rfl) (by kernel_rfl) (fun _ _ _ h => h) (Or.inl ⟨by kernel_rfl, ?hyh32⟩) h2 ?resth32
      case hyh32 =>
        intro v hv
        clear hv
        go_simp
      (try simp only [Act.put, List.setIfInBounds_toArray, List.set_cons_zero, List.set_cons_succ])
      refine wpAnyH_take (i := 9) (v := .slice pl l.length cl) rfl (by kernel_rfl) (by kernel_rfl) (by kernel_rfl) (fun _ _ _ h => h) (Or.inl ⟨by kernel_rfl, ?hyh33⟩) h2 ?resth33
      case hyh33 =>
        intro v hv
        clear hv
        go_simp
      (try simp only [Act.put, List.setIfInBounds_toArray, List.set_cons_zero, List.set_cons_succ])
      refine wpAnyH_take (i := 10) (v := .agg #[.int .i64 a1, .int .i64 (b1 : Int), .int .i64 z1]) rfl (by kernel_rfl) (by kernel_rfl) (by kernel_rfl) (fun _ _ _ h => h) (Or.inl ⟨by kernel_rfl, ?hyh34⟩) h2 ?resth34
      case hyh34 =>
        intro v hv
        clear hv
        go_simp
      (try simp only [Act.put, List.setIfInBounds_toArray, List.set_cons_zero, List.set_cons_succ])
      refine wpAnyH_ready (rs := [12]) (by kernel_rfl) (by simp) ?_
      refine AllReadyH.cons rfl (fun K hK => ?_) AllReadyH.nil
      go_simp
      refine hK _ _ h2 (fun _ => ?_)
      clear hK K
      (try simp only [Act.put, List.setIfInBounds_toArray, List.set_cons_zero, List.set_cons_succ])
      refine wpAnyH_ready (rs := [13]) (by kernel_rfl) (by simp) ?_
      refine AllReadyH.cons rfl (fun K hK => ?_) AllReadyH.nil
      have cz0 := KT.cell 0
      have cz1 := KT.cell 1
      have cz2 := KT.cell 2
      simp at cz0 cz1 cz2
      have fz := KT.froz
      go_simp
      clear cz0 cz1 cz2 fz
      obtain ⟨V9, hW⟩ : ∃ X, X = (((V2.setCell ⟨g, 0, none⟩ (.int .i64 a1)).setCell ⟨g, 1, none⟩ (.int .i64 (b1 : Int))).setCell ⟨g, 2, none⟩ (.int .i64 z1)) := ⟨_, rfl⟩
      have h9 : Below w1.heap.size w1 V9 := by rw [hW]; exact ((h2.setCell (p := ⟨g, 0, none⟩) GG.out _).setCell (p := ⟨g, 1, none⟩) GG.out _).setCell (p := ⟨g, 2, none⟩) GG.out _
      have ML9 := Lib.hid (show Msgs V9 (.slice pl l.length cl) l by rw [hW]; exact own_tail3 ML.out MI.out KT _ _ _)
      have KT9 : Blk V9 g #[.int .i64 a1, .int .i64 (b1 : Int), .int .i64 z1] 31 := by rw [hW]; exact tail_set3 KT _ _ _
      rw [← hW]
      clear hW
      refine hK _ _ h9 (fun _ => ?_)
      clear hK K
      (try simp only [Act.put, List.setIfInBounds_toArray, List.set_cons_zero, List.set_cons_succ])
      refine wpAnyH_done (by kernel_rfl) ?_ _
      go_wp2_with fail
      go_meet
      case rel => exact ⟨⟨pl, cl, l, g, rfl, rfl, HL.out, HC.out, HN.out, ML9.out, KT9, GG.out⟩, h9⟩

  case rest =>
    obtain ⟨⟨p3, c3, l3, g3, rfl, rfl, hl, hc, hn, hm, hk, hg⟩, hb⟩ := hcut
    rename World => W3
    have B3 := Lib.hid (B1.out.trans (hb.mono B1.out.size))
    have K3 := Lib.hid (K1.out.call hb)
    have M3 := Lib.hid hm
    have T3 := Lib.hid hk
    have E3 := Lib.hid hl
    have C3 := Lib.hid hc
    have N3 := Lib.hid hn
    clear hl hc hn hm hk hg hb
    have q0 := K3.out.cell 0; have q1 := K3.out.cell 1; have q3 := K3.out.cell 3; have q4 := K3.out.cell 4; have q5 := K3.out.cell 5; have q6 := K3.out.cell 6; have q7 := K3.out.cell 7; simp at q0 q1 q3 q4 q5 q6 q7
    go_upto_region 4 with fail
    go_cut [5, 6] (fun v5 v6 W => TailAt L2 a2 b2 z2 W3.heap.size v5 v6 W ∧ Below W3.heap.size W3 W)
    case first =>
      go_wp2_with (go_at_call 11; refine (HQ2.out _ B3.out).mono ?_; rintro e4 w4 ⟨v, l, rfl, hl, ho, hi, hb⟩; obtain ⟨pl, cl, rfl, hcap, hnil⟩ := ho.cap; have ML := Lib.hid (ho.msgs hi); have HL := Lib.hid hl; have HC := Lib.hid hcap; have HN := Lib.hid hnil; have H4 := Lib.hid hb; clear hl ho hi hb hcap hnil)
      go_meet
      case rel => exact ⟨⟨pl, cl, l, w4.heap.size, rfl, rfl, HL.out, HC.out, HN.out, ML.out.below ((Below.refl _ _).alloc (Nat.le_refl _) _), Blk.new _ _ _, H4.out.size⟩, H4.out.alloc H4.out.size _⟩
    case rest =>
      clear q0 q1 q3 q4 q5 q6 q7
      obtain ⟨⟨p5, c5, l5, g5, rfl, rfl, hl, hc, hn, hm, hk, hg⟩, hb⟩ := hcut
      rename World => W5
      have B5 := Lib.hid (B3.out.trans (hb.mono B3.out.size))
      have K5 := Lib.hid (K3.out.call hb)
      have M5 := Lib.hid hm
      have T5 := Lib.hid hk
      have E5 := Lib.hid hl
      have C5 := Lib.hid hc
      have N5 := Lib.hid hn
      replace M3 := Lib.hid (M3.out.below hb)
      replace T3 := Lib.hid (T3.out.call hb)
      clear hl hc hn hm hk hg hb
      go_upto_region 5 with fail
      go_cut [7, 8] (fun v7 v8 W => TailAt L3 a3 b3 z3 W5.heap.size v7 v8 W ∧ Below W5.heap.size W5 W)
      case first =>
        refine wp_region_at (S := fun v => Below W5.heap.size W5 v) (by kernel_rfl) ?_
        intro V0 hV0
        have h0 : Below W5.heap.size W5 V0 := by rw [hV0]; exact (Below.refl _ _).drew
        clear hV0
        refine wpAnyH_take (i := 0) (v := .pointer (some ⟨w.heap.size, 0, none⟩)) rfl (by kernel_rfl) (by kernel_rfl) (by kernel_rfl) (fun _ _ _ h => h) (Or.inl ⟨by kernel_rfl, ?hyh35⟩) h0 ?resth35
        case hyh35 =>
          intro v hv
          clear hv
          go_simp
        (try simp only [Act.put, List.setIfInBounds_toArray, List.set_cons_zero, List.set_cons_succ])
        refine wpAnyH_take (i := 1) (v := .string x) rfl (by kernel_rfl) (by kernel_rfl) (by kernel_rfl) (fun _ _ _ h => h) (Or.inl ⟨by kernel_rfl, ?hyh36⟩) h0 ?resth36
        case hyh36 =>
          intro v hv
          have q0 := (K5.out.call hv).cell 0
          simp at q0
          clear hv
          go_simp
        (try simp only [Act.put, List.setIfInBounds_toArray, List.set_cons_zero, List.set_cons_succ])
        refine wpAnyH_take (i := 2) (v := .pointer (some ⟨w.heap.size, 8, none⟩)) rfl (by kernel_rfl) (by kernel_rfl) (by kernel_rfl) (fun _ _ _ h => h) (Or.inl ⟨by kernel_rfl, ?hyh37⟩) h0 ?resth37
        case hyh37 =>
          intro v hv
          clear hv
          go_simp
        (try simp only [Act.put, List.setIfInBounds_toArray, List.set_cons_zero, List.set_cons_succ])
        refine wpAnyH_take (i := 3) (v := .int .i64 (k : Int)) rfl (by kernel_rfl) (by kernel_rfl) (by kernel_rfl) (fun _ _ _ h => h) (Or.inl ⟨by kernel_rfl, ?hyh38⟩) h0 ?resth38
        case hyh38 =>
          intro v hv
          have q8 := (K5.out.call hv).cell 8
          simp at q8
          clear hv
          go_simp
        (try simp only [Act.put, List.setIfInBounds_toArray, List.set_cons_zero, List.set_cons_succ])
        refine wpAnyH_take (i := 4) (v := .string P) rfl (by kernel_rfl) (by kernel_rfl) (by kernel_rfl) (fun _ _ _ h => h) (Or.inl ⟨by kernel_rfl, ?hyh39⟩) h0 ?resth39
        case hyh39 =>
          intro v hv
          have q := HSL.out
          clear hv
          go_simp
        (try simp only [Act.put, List.setIfInBounds_toArray, List.set_cons_zero, List.set_cons_succ])
        refine wpAnyH_take (i := 5) (v := .pointer (some ⟨w.heap.size, 2, none⟩)) rfl (by kernel_rfl) (by kernel_rfl) (by kernel_rfl) (fun _ _ _ h => h) (Or.inl ⟨by kernel_rfl, ?hyh40⟩) h0 ?resth40
        case hyh40 =>
          intro v hv
          clear hv
          go_simp
        (try simp only [Act.put, List.setIfInBounds_toArray, List.set_cons_zero, List.set_cons_succ])
        refine wpAnyH_take (i := 6) (v := .slice pm nm cm) rfl (by kernel_rfl) (by kernel_rfl) (by kernel_rfl) (fun _ _ _ h => h) (Or.inl ⟨by kernel_rfl, ?hyh41⟩) h0 ?resth41
        case hyh41 =>
          intro v hv
          have q2 := (K5.out.call hv).cell 2
          simp at q2
          clear hv
          go_simp
        (try simp only [Act.put, List.setIfInBounds_toArray, List.set_cons_zero, List.set_cons_succ])
        refine wpAnyH_take (i := 7) (v := .pointer (some ⟨w.heap.size, 3, none⟩)) rfl (by kernel_rfl) (by kernel_rfl) (by kernel_rfl) (fun _ _ _ h => h) (Or.inl ⟨by kernel_rfl, ?hyh42⟩) h0 ?resth42
        case hyh42 =>
          intro v hv
          clear hv
          go_simp
        (try simp only [Act.put, List.setIfInBounds_toArray, List.set_cons_zero, List.set_cons_succ])
        refine wpAnyH_take (i := 8) (v := .agg #[.int .i64 a, .int .i64 fields, .int .i64 c, .int .i64 d, .int .i64 fold]) rfl (by kernel_rfl) (by kernel_rfl) (by kernel_rfl) (fun _ _ _ h => h) (Or.inl ⟨by kernel_rfl, ?hyh43⟩) h0 ?resth43
        case hyh43 =>
          intro v hv
          have q3 := (K5.out.call hv).cell 3
          have q4 := (K5.out.call hv).cell 4
          have q5 := (K5.out.call hv).cell 5
          have q6 := (K5.out.call hv).cell 6
          have q7 := (K5.out.call hv).cell 7
          simp at q3 q4 q5 q6 q7
          clear hv
          go_simp
        (try simp only [Act.put, List.setIfInBounds_toArray, List.set_cons_zero, List.set_cons_succ])
        refine wpAnyH_ready (rs := [9, 13]) (by kernel_rfl) (by simp) ?_
        refine AllReadyH.cons rfl (fun K hK => ?_) (AllReadyH.cons rfl (fun K hK => ?_) AllReadyH.nil)
        · go_simp
          refine (HP.out W5 V0 B5.out h0).mono ?_
          rintro e V1 ⟨v, l, rfl, hl, ho, hi, hb⟩
          obtain ⟨pl, cl, rfl, hcap, hnil⟩ := ho.cap
          have h1 : Below W5.heap.size W5 V1 := h0.trans (hb.mono h0.size)
          have ML := Lib.hid (show OwnM V1 V0.heap.size _ l from ho)
          have MI := Lib.hid hi
          have HL := Lib.hid hl
          have HC := Lib.hid hcap
          have HN := Lib.hid hnil
          refine hK _ _ h1 (fun _ => ?_)
          clear hK K h0 hl ho hi hb hcap hnil
          (try simp only [Act.put, List.setIfInBounds_toArray, List.set_cons_zero, List.set_cons_succ])
          refine wpAnyH_take (i := 10) (v := .tuple #[.slice pl l.length cl, .agg #[.int .i64 a3, .int .i64 (b3 : Int), .int .i64 z3]]) rfl (by kernel_rfl) (by kernel_rfl) (by kernel_rfl) (fun _ _ _ h => h) (Or.inl ⟨by kernel_rfl, ?hyh44⟩) h1 ?resth44
          case hyh44 =>
            intro v hv
            clear hv
            go_simp
          (try simp only [Act.put, List.setIfInBounds_toArray, List.set_cons_zero, List.set_cons_succ])
          refine wpAnyH_take (i := 11) (v := .slice pl l.length cl) rfl (by kernel_rfl) (by kernel_rfl) (by kernel_rfl) (fun _ _ _ h => h) (Or.inl ⟨by kernel_rfl, ?hyh45⟩) h1 ?resth45
          case hyh45 =>
            intro v hv
            clear hv
            go_simp
          (try simp only [Act.put, List.setIfInBounds_toArray, List.set_cons_zero, List.set_cons_succ])
          refine wpAnyH_take (i := 12) (v := .agg #[.int .i64 a3, .int .i64 (b3 : Int), .int .i64 z3]) rfl (by kernel_rfl) (by kernel_rfl) (by kernel_rfl) (fun _ _ _ h => h) (Or.inl ⟨by kernel_rfl, ?hyh46⟩) h1 ?resth46
          case hyh46 =>
            intro v hv
            clear hv
            go_simp
          (try simp only [Act.put, List.setIfInBounds_toArray, List.set_cons_zero, List.set_cons_succ])
          refine wpAnyH_ready (rs := [13]) (by kernel_rfl) (by simp) ?_
          refine AllReadyH.cons rfl (fun K hK => ?_) AllReadyH.nil
          go_simp
          obtain ⟨g, hg⟩ : ∃ n, n = V1.heap.size := ⟨_, rfl⟩
          rw [← hg]
          obtain ⟨V2, hW⟩ : ∃ X, X = V1.alloc (.cells #[.int .i64 0, .int .i64 0, .int .i64 0] 31) := ⟨_, rfl⟩
          rw [← hW]
          have h2 : Below W5.heap.size W5 V2 := by rw [hW]; exact h1.alloc h1.size _
          have KT : Blk V2 g #[.int .i64 0, .int .i64 0, .int .i64 0] 31 := by rw [hW, hg]; exact Blk.new _ _ _
          have GG := Lib.hid (show W5.heap.size ≤ g by rw [hg]; exact h1.size)
          have hb2 : Below V1.heap.size V1 V2 := by rw [hW]; exact (Below.refl _ _).alloc (Nat.le_refl _) _
          replace ML := Lib.hid (ML.out.call hb2)
          replace MI := Lib.hid (fun q hq => (MI.out q hq).call hb2)
          clear hb2
          clear hW hg
          refine hK _ _ h2 (fun _ => ?_)
          clear hK K h1
          (try simp only [Act.put, List.setIfInBounds_toArray, List.set_cons_zero, List.set_cons_succ])
          refine wpAnyH_ready (rs := [14]) (by kernel_rfl) (by simp) ?_
          refine AllReadyH.cons rfl (fun K hK => ?_) AllReadyH.nil
          go_simp
          refine hK _ _ h2 (fun _ => ?_)
          clear hK K
          (try simp only [Act.put, List.setIfInBounds_toArray, List.set_cons_zero, List.set_cons_succ])
          refine wpAnyH_ready (rs := [15]) (by kernel_rfl) (by simp) ?_
          refine AllReadyH.cons rfl (fun K hK => ?_) AllReadyH.nil
          have cz0 := KT.cell 0
          have cz1 := KT.cell 1
          have cz2 := KT.cell 2
          simp at cz0 cz1 cz2
          have fz := KT.froz
          go_simp
          clear cz0 cz1 cz2 fz
          obtain ⟨V9, hW⟩ : ∃ X, X = (((V2.setCell ⟨g, 0, none⟩ (.int .i64 a3)).setCell ⟨g, 1, none⟩ (.int .i64 (b3 : Int))).setCell ⟨g, 2, none⟩ (.int .i64 z3)) := ⟨_, rfl⟩
          have h9 : Below W5.heap.size W5 V9 := by rw [hW]; exact ((h2.setCell (p := ⟨g, 0, none⟩) GG.out _).setCell (p := ⟨g, 1, none⟩) GG.out _).setCell (p := ⟨g, 2, none⟩) GG.out _
          have ML9 := Lib.hid (show Msgs V9 (.slice pl l.length cl) l by rw [hW]; exact own_tail3 ML.out MI.out KT _ _ _)
          have KT9 : Blk V9 g #[.int .i64 a3, .int .i64 (b3 : Int), .int .i64 z3] 31 := by rw [hW]; exact tail_set3 KT _ _ _
          rw [← hW]
          clear hW
          refine hK _ _ h9 (fun _ => ?_)
          clear hK K
          (try simp only [Act.put, List.setIfInBounds_toArray, List.set_cons_zero, List.set_cons_succ])
          refine wpAnyH_done (by kernel_rfl) ?_ _
          go_wp2_with fail
          go_meet
          case rel => exact ⟨⟨pl, cl, l, g, rfl, rfl, HL.out, HC.out, HN.out, ML9.out, KT9, GG.out⟩, h9⟩
        · go_simp
          obtain ⟨g, hg⟩ : ∃ n, n = V0.heap.size := ⟨_, rfl⟩
          rw [← hg]
          obtain ⟨V1, hW⟩ : ∃ X, X = V0.alloc (.cells #[.int .i64 0, .int .i64 0, .int .i64 0] 31) := ⟨_, rfl⟩
          rw [← hW]
          have h1 : Below W5.heap.size W5 V1 := by rw [hW]; exact h0.alloc h0.size _
          have KT : Blk V1 g #[.int .i64 0, .int .i64 0, .int .i64 0] 31 := by rw [hW, hg]; exact Blk.new _ _ _
          have GG := Lib.hid (show W5.heap.size ≤ g by rw [hg]; exact h0.size)
          clear hW hg
          refine hK _ _ h1 (fun _ => ?_)
          clear hK K h0
          (try simp only [Act.put, List.setIfInBounds_toArray, List.set_cons_zero, List.set_cons_succ])
          refine wpAnyH_ready (rs := [9]) (by kernel_rfl) (by simp) ?_
          refine AllReadyH.cons rfl (fun K hK => ?_) AllReadyH.nil
          go_simp
          refine (HP.out W5 V1 B5.out h1).mono ?_
          rintro e V2 ⟨v, l, rfl, hl, ho, hi, hb⟩
          obtain ⟨pl, cl, rfl, hcap, hnil⟩ := ho.cap
          have h2 : Below W5.heap.size W5 V2 := h1.trans (hb.mono h1.size)
          have ML := Lib.hid (show OwnM V2 V1.heap.size _ l from ho)
          have MI := Lib.hid hi
          have HL := Lib.hid hl
          have HC := Lib.hid hcap
          have HN := Lib.hid hnil
          replace KT := KT.call hb
          refine hK _ _ h2 (fun _ => ?_)
          clear hK K h1 hl ho hi hb hcap hnil
          (try simp only [Act.put, List.setIfInBounds_toArray, List.set_cons_zero, List.set_cons_succ])
          refine wpAnyH_take (i := 10) (v := .tuple #[.slice pl l.length cl, .agg #[.int .i64 a3, .int .i64 (b3 : Int), .int .i64 z3]]) rfl (by kernel_rfl) (by kernel_rfl) (by kernel_rfl) (fun _ _ _ h => h) (Or.inl ⟨by kernel_rfl, ?hyh47⟩) h2 ?resth47
          case hyh47 =>
            intro v hv
            clear hv
            go_simp
          (try simp only [Act.put, List.setIfInBounds_toArray, List.set_cons_zero, List.set_cons_succ])
          refine wpAnyH_take (i := 11) (v := .slice pl l.length cl) rfl (by kernel_rfl) (by kernel_rfl) (by kernel_rfl) (fun _ _ _ h => h) (Or.inl ⟨by kernel_rfl, ?hyh48⟩) h2 ?resth48
          case hyh48 =>
            intro v hv
            clear hv
            go_simp
          (try simp only [Act.put, List.setIfInBounds_toArray, List.set_cons_zero, List.set_cons_succ])
          refine wpAnyH_take (i := 12) (v := .agg #[.int .i64 a3, .int .i64 (b3 : Int), .int .i64 z3]) rfl (by kernel_rfl) (by kernel_rfl) (by kernel_rfl) (fun _ _ _ h => h) (Or.inl ⟨by kernel_rfl, ?hyh49⟩) h2 ?resth49
          case hyh49 =>
            intro v hv
            clear hv
            go_simp
          (try simp only [Act.put, List.setIfInBounds_toArray, List.set_cons_zero, List.set_cons_succ])
          refine wpAnyH_ready (rs := [14]) (by kernel_rfl) (by simp) ?_
          refine AllReadyH.cons rfl (fun K hK => ?_) AllReadyH.nil
          go_simp
          refine hK _ _ h2 (fun _ => ?_)
          clear hK K
          (try simp only [Act.put, List.setIfInBounds_toArray, List.set_cons_zero, List.set_cons_succ])
          refine wpAnyH_ready (rs := [15]) (by kernel_rfl) (by simp) ?_
          refine AllReadyH.cons rfl (fun K hK => ?_) AllReadyH.nil
          have cz0 := KT.cell 0
          have cz1 := KT.cell 1
          have cz2 := KT.cell 2
          simp at cz0 cz1 cz2
          have fz := KT.froz
          go_simp
          clear cz0 cz1 cz2 fz
          obtain ⟨V9, hW⟩ : ∃ X, X = (((V2.setCell ⟨g, 0, none⟩ (.int .i64 a3)).setCell ⟨g, 1, none⟩ (.int .i64 (b3 : Int))).setCell ⟨g, 2, none⟩ (.int .i64 z3)) := ⟨_, rfl⟩
          have h9 : Below W5.heap.size W5 V9 := by rw [hW]; exact ((h2.setCell (p := ⟨g, 0, none⟩) GG.out _).setCell (p := ⟨g, 1, none⟩) GG.out _).setCell (p := ⟨g, 2, none⟩) GG.out _
          have ML9 := Lib.hid (show Msgs V9 (.slice pl l.length cl) l by rw [hW]; exact own_tail3 ML.out MI.out KT _ _ _)
          have KT9 : Blk V9 g #[.int .i64 a3, .int .i64 (b3 : Int), .int .i64 z3] 31 := by rw [hW]; exact tail_set3 KT _ _ _
          rw [← hW]
          clear hW
          refine hK _ _ h9 (fun _ => ?_)
          clear hK K
          (try simp only [Act.put, List.setIfInBounds_toArray, List.set_cons_zero, List.set_cons_succ])
          refine wpAnyH_done (by kernel_rfl) ?_ _
          go_wp2_with fail
          go_meet
          case rel => exact ⟨⟨pl, cl, l, g, rfl, rfl, HL.out, HC.out, HN.out, ML9.out, KT9, GG.out⟩, h9⟩

      case rest =>
        obtain ⟨⟨p7, c7, l7, g7, rfl, rfl, hl, hc, hn, hm, hk, hg⟩, hb⟩ := hcut
        rename World => W7
        have B7 := Lib.hid (B5.out.trans (hb.mono B5.out.size))
        have K7 := Lib.hid (K5.out.call hb)
        have M7 := Lib.hid hm
        have T7 := Lib.hid hk
        have E7 := Lib.hid hl
        have C7 := Lib.hid hc
        have N7 := Lib.hid hn
        replace M3 := Lib.hid (M3.out.below hb)
        replace T3 := Lib.hid (T3.out.call hb)
        replace M5 := Lib.hid (M5.out.below hb)
        replace T5 := Lib.hid (T5.out.call hb)
        clear hl hc hn hm hk hg hb
        have q0 := K7.out.cell 0; have q1 := K7.out.cell 1; have q2 := K7.out.cell 2; have q3 := K7.out.cell 3; have q4 := K7.out.cell 4; have q5 := K7.out.cell 5; have q6 := K7.out.cell 6; have q7 := K7.out.cell 7; simp at q0 q1 q2 q3 q4 q5 q6 q7
        go_upto_region 6 with fail
        go_cut [9, 10] (fun v9 v10 W => TailAt L4 a4 b4 z4 W7.heap.size v9 v10 W ∧ Below W7.heap.size W7 W)
        case first =>
          go_wp2_with (go_at_call 14; refine (HP2.out _ B7.out).mono ?_; rintro e4 w4 ⟨v, l, rfl, hl, ho, hi, hb⟩; obtain ⟨pl, cl, rfl, hcap, hnil⟩ := ho.cap; have ML := Lib.hid (ho.msgs hi); have HL := Lib.hid hl; have HC := Lib.hid hcap; have HN := Lib.hid hnil; have H4 := Lib.hid hb; clear hl ho hi hb hcap hnil)
          go_meet
          case rel => exact ⟨⟨pl, cl, l, w4.heap.size, rfl, rfl, HL.out, HC.out, HN.out, ML.out.below ((Below.refl _ _).alloc (Nat.le_refl _) _), Blk.new _ _ _, H4.out.size⟩, H4.out.alloc H4.out.size _⟩
        case rest =>
          clear q0 q1 q2 q3 q4 q5 q6 q7
          obtain ⟨⟨p9, c9, l9, g9, rfl, rfl, hl, hc, hn, hm, hk, hg⟩, hb⟩ := hcut
          rename World => W9
          have B9 := Lib.hid (B7.out.trans (hb.mono B7.out.size))
          have K9 := Lib.hid (K7.out.call hb)
          have M9 := Lib.hid hm
          have T9 := Lib.hid hk
          have E9 := Lib.hid hl
          have C9 := Lib.hid hc
          have N9 := Lib.hid hn
          replace M3 := Lib.hid (M3.out.below hb)
          replace T3 := Lib.hid (T3.out.call hb)
          replace M5 := Lib.hid (M5.out.below hb)
          replace T5 := Lib.hid (T5.out.call hb)
          replace M7 := Lib.hid (M7.out.below hb)
          replace T7 := Lib.hid (T7.out.call hb)
          clear hl hc hn hm hk hg hb
          have hE3 := E3.out; have hE5 := E5.out; have hE7 := E7.out; have hE9 := E9.out
          obtain ⟨C1, hC1⟩ := G1.out.l
          obtain ⟨C2, hC2⟩ := G2.out.l
          have hC1 : L2 = L1 ++ C1 := hC1
          have hC2 : L4 = L3 ++ C2 := hC2
          have n3 : l3.length = L1.length := by rw [← hE3, List.length_map]
          have n5 : l5.length = L1.length + C1.length := by rw [← List.length_append, ← hC1, ← hE5, List.length_map]
          have n7 : l7.length = L3.length := by rw [← hE7, List.length_map]
          have n9 : l9.length = L3.length + C2.length := by rw [← List.length_append, ← hC2, ← hE9, List.length_map]
          have hl3 := LN1.out
          have hl7 := LN2.out
          have hc5 := C5.out
          have hc9 := C9.out
          have HS1 : Hid (∀ W, Below W9.heap.size W9 W → Calls Tryz.prog 13 #[.slice p3 l3.length c3, .slice p5 l3.length c5] W fun e w' => e = .returned (.bool true) ∧ Below W.heap.size W w') := by
            show ∀ W, _ → _
            intro W hW
            refine msameall_eq _ _ l3 (l5.take l3.length) W (M3.out.below hW) ((M5.out.below hW).take l3.length (by omega)) ?_ (fun q hq => OK1.out _ (by rw [← hE3]; exact List.mem_map_of_mem hq)) (by omega)
            rw [List.map_take, hE5, hC1, hE3, n3, List.take_left]
          have HS2 : Hid (∀ W, Below W9.heap.size W9 W → Calls Tryz.prog 13 #[.slice p7 l7.length c7, .slice p9 l7.length c9] W fun e w' => e = .returned (.bool true) ∧ Below W.heap.size W w') := by
            show ∀ W, _ → _
            intro W hW
            refine msameall_eq _ _ l7 (l9.take l7.length) W (M7.out.below hW) ((M9.out.below hW).take l7.length (by omega)) ?_ (fun q hq => OK2.out _ (by rw [← hE7]; exact List.mem_map_of_mem hq)) (by omega)
            rw [List.map_take, hE9, hC2, hE7, n7, List.take_left]
          have f1 : decide (l5.length < l3.length) = false := decide_eq_false (by omega)
          have f2 : decide (l9.length < l7.length) = false := decide_eq_false (by omega)
          have f3 : l3.length ≤ c5 := by omega
          have f4 : l7.length ≤ c9 := by omega
          have f5 : b1 ≤ b2 := G1.out.a
          have f6 : b3 ≤ b4 := G2.out.a
          have hk1 : a1 ≠ 2 ∨ (a1 = 2 ∧ a2 = a1 ∧ b2 = b1 ∧ z2 = z1) := by
            by_cases h : a1 = 2
            · have := G1.out.b h
              simp only [Prod.mk.injEq] at this
              exact Or.inr ⟨h, this.2.1, this.2.2.1, this.2.2.2⟩
            · exact Or.inl h
          have hk2 : a3 ≠ 2 ∨ (a3 = 2 ∧ a4 = a3 ∧ b4 = b3 ∧ z4 = z3) := by
            by_cases h : a3 = 2
            · have := G2.out.b h
              simp only [Prod.mk.injEq] at this
              exact Or.inr ⟨h, this.2.1, this.2.2.1, this.2.2.2⟩
            · exact Or.inl h
          clear hE3 hE5 hE7 hE9 hC1 hC2 n3 n5 n7 n9 hl3 hl7 hc5 hc9 HQ HQ2 HP HP2 G1 G2 E3 E5 E7 E9
          go_upto_region 9 with (first | (go_at_call 13; refine (HS1.out _ (Below.refl _ _)).mono ?_; rintro x1 y1 ⟨rfl, hs1⟩; have Z1 := Lib.hid hs1; clear hs1 HS1) | (go_at_call 13; refine (HS2.out _ Z1.out).mono ?_; rintro x2 y2 ⟨rfl, hs2⟩; have Z2 := Lib.hid (Z1.out.trans (hs2.mono Z1.out.size)); clear hs2))
          have BZ := Lib.hid (B9.out.trans (Z2.out.mono B9.out.size))
          have U3 := T3.out.call Z2.out; have U5 := T5.out.call Z2.out; have U7 := T7.out.call Z2.out; have U9 := T9.out.call Z2.out
          have m0 := U3.cell 0; have m1 := U3.cell 1; have m2 := U3.cell 2
          have o0 := U5.cell 0; have o1 := U5.cell 1; have o2 := U5.cell 2
          have r0 := U7.cell 0; have r1 := U7.cell 1; have r2 := U7.cell 2
          have s0 := U9.cell 0; have s1 := U9.cell 1; have s2 := U9.cell 2
          simp at m0 m1 m2 o0 o1 o2 r0 r1 r2 s0 s1 s2
          have f7 : decide (b1 ≤ b2) = true := decide_eq_true f5
          have f8 : decide (b3 ≤ b4) = true := decide_eq_true f6
          clear U3 U5 U7 U9 f1 f2 f3 f4 f5 f6
          rcases hk1 with h1 | ⟨rfl, rfl, rfl, rfl⟩
          · have j1 : (a1 == 2) = false := beq_eq_false_iff_ne.2 h1
            have j1' : (a1 != 2) = true := by rw [bne, j1]; rfl
            clear h1
            rcases hk2 with h2 | ⟨rfl, rfl, rfl, rfl⟩
            · have j2 : (a3 == 2) = false := beq_eq_false_iff_ne.2 h2
              have j2' : (a3 != 2) = true := by rw [bne, j2]; rfl
              clear h2
              go_wp2_with (go_at_call 10; refine (HLV.out _ BZ.out).mono ?_; rintro e9 w9 ⟨rfl, hb9⟩; have B9 := Lib.hid ((BZ.out).trans (hb9.mono (BZ.out).size)); clear hb9)
              go_ret
              exact ⟨rfl, B9.out⟩
            · go_wp2_with (go_at_call 10; refine (HLV.out _ BZ.out).mono ?_; rintro e9 w9 ⟨rfl, hb9⟩; have B9 := Lib.hid ((BZ.out).trans (hb9.mono (BZ.out).size)); clear hb9)
              go_ret
              exact ⟨rfl, B9.out⟩
          · rcases hk2 with h2 | ⟨rfl, rfl, rfl, rfl⟩
            · have j2 : (a3 == 2) = false := beq_eq_false_iff_ne.2 h2
              have j2' : (a3 != 2) = true := by rw [bne, j2]; rfl
              clear h2
              go_wp2_with (go_at_call 10; refine (HLV.out _ BZ.out).mono ?_; rintro e9 w9 ⟨rfl, hb9⟩; have B9 := Lib.hid ((BZ.out).trans (hb9.mono (BZ.out).size)); clear hb9)
              go_ret
              exact ⟨rfl, B9.out⟩
            · go_wp2_with (go_at_call 10; refine (HLV.out _ BZ.out).mono ?_; rintro e9 w9 ⟨rfl, hb9⟩; have B9 := Lib.hid ((BZ.out).trans (hb9.mono (BZ.out).size)); clear hb9)
              go_ret
              exact ⟨rfl, B9.out⟩
end Go.Proofs.YteloccgdafphfaaGreatDoor

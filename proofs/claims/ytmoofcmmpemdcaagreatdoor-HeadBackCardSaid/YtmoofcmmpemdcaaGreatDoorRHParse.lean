/- The reference's Parse of a head. -/
import Derived.Test.YtmoofcmmpemdcaaGreatDoorHParse
import Derived.Deep.Cut
set_option linter.unusedSimpArgs false
set_option linter.unusedVariables false
namespace Go.Proofs.YtmoofcmmpemdcaaGreatDoor
open Go.RowKit
theorem blk_far6 {w : World} {g g' : Nat} {cs : Array Value} {t : TypeId} (h : Blk w g' cs t) (hne : g' ≠ g) (a b c d e f : Value) : Blk (set6 w g a b c d e f) g' cs t :=
  (((((h.far (p := ⟨g, 0, none⟩) hne a).far (p := ⟨g, 1, none⟩) hne b).far (p := ⟨g, 2, none⟩) hne c).far (p := ⟨g, 3, none⟩) hne d).far (p := ⟨g, 4, none⟩) hne e).far (p := ⟨g, 5, none⟩) hne f
/-- A halt ahead of a region: its world gets a name. -/
theorem wp_here (id : Nat) {P : Program} {ops : Array Oper} {b : Bool} {Q : Exit → Act → World → Prop} {a : Act} {w : World} (h : ∀ w', w' = w → (Code.region id ops b).wp P Q a w') : (Code.region id ops b).wp P Q a w := h w rfl
set_option maxRecDepth 100000 in
theorem rhparse_arg (kind a fields c d fold : Int) (h1 : kind ≠ 1) (h2 : kind ≠ 2) (v : Value) (w : World) :
    Calls Tryz.prog 54 #[.int .i64 kind, .agg #[.int .i64 a, .int .i64 fields, .int .i64 c, .int .i64 d, .int .i64 fold], v] w fun e w' => e = .returned (.tuple #[.agg (hd0.row nilS), .int .i64 1]) ∧ Below w.heap.size w w' := by
  have e1 : (kind != 1) = true := by simpa using h1
  have e2 : (kind != 2) = true := by simpa using h2
  have HB := Lib.hid (below_al2 w (.cells #[.int .i64 a, .int .i64 fields, .int .i64 c, .int .i64 d, .int .i64 fold] 36) (.cells #[.string ⟨#[]⟩, .string ⟨#[]⟩, .int .i64 0, .int .i64 0, .string ⟨#[]⟩, .slice none 0 0] 24))
  have HZ := Lib.hid (blk_al2 w #[.int .i64 a, .int .i64 fields, .int .i64 c, .int .i64 d, .int .i64 fold] #[.string ⟨#[]⟩, .string ⟨#[]⟩, .int .i64 0, .int .i64 0, .string ⟨#[]⟩, .slice none 0 0] 36 24)
  clear h1 h2
  go_enter Tryz.func54, Tryz.ntmps54
  go_wp2_with fail
  exact bodyPost_ret (results_agg_tmp Tryz.results54 _ _ _ _ rfl (run_loadVar_row _ _ _ _ _ _ _ HZ.out Tryz.underlying24 rfl (by kernel_rfl))) rfl ⟨rfl, HB.out⟩
set_option maxRecDepth 100000 in
theorem rhparse_end (kind a fields c d fold : Int) (h1 : kind = 1 ∨ kind = 2) (p : Option Addr) (cc : Nat) (w : World) :
    Calls Tryz.prog 54 #[.int .i64 kind, .agg #[.int .i64 a, .int .i64 fields, .int .i64 c, .int .i64 d, .int .i64 fold], .slice p 0 cc] w fun e w' => e = .returned (.tuple #[.agg (hd0.row nilS), .int .i64 2]) ∧ Below w.heap.size w w' := by
  have HB := Lib.hid (below_al2 w (.cells #[.int .i64 a, .int .i64 fields, .int .i64 c, .int .i64 d, .int .i64 fold] 36) (.cells #[.string ⟨#[]⟩, .string ⟨#[]⟩, .int .i64 0, .int .i64 0, .string ⟨#[]⟩, .slice none 0 0] 24))
  have HZ := Lib.hid (blk_al2 w #[.int .i64 a, .int .i64 fields, .int .i64 c, .int .i64 d, .int .i64 fold] #[.string ⟨#[]⟩, .string ⟨#[]⟩, .int .i64 0, .int .i64 0, .string ⟨#[]⟩, .slice none 0 0] 36 24)
  rcases h1 with rfl | rfl
  all_goals
    go_enter Tryz.func54, Tryz.ntmps54
    go_wp2_with fail
    exact bodyPost_ret (results_agg_tmp Tryz.results54 _ _ _ _ rfl (run_loadVar_row _ _ _ _ _ _ _ HZ.out Tryz.underlying24 rfl (by kernel_rfl))) rfl ⟨rfl, HB.out⟩
set_option maxRecDepth 100000 in
set_option maxHeartbeats 4000000 in
theorem rhparse_go1 (a fields c d fold : Int) (b off m cc : Nat) (s : ByteArray) (rest : List ByteArray) (w : World) (hS : Strs w (.slice (some ⟨b, off, none⟩) (m + 1) cc) (s :: rest)) (hcap : m + 1 ≤ cc) (hn : m ≤ 100000) (ht : tot (s :: rest) ≤ 100000) :
    Calls Tryz.prog 54 #[.int .i64 1, .agg #[.int .i64 a, .int .i64 fields, .int .i64 c, .int .i64 d, .int .i64 fold], .slice (some ⟨b, off, none⟩) (m + 1) cc] w fun e w' => ∃ f, e = .returned (.tuple #[.agg ((headP 1 fields fold (s :: rest)).1.row f), .int .i64 (headP 1 fields fold (s :: rest)).2]) ∧ OwnF w' w.heap.size f (headP 1 fields fold (s :: rest)).1.fs ∧ Below w.heap.size w w' := by
  obtain ⟨hmr, hs0, htl, htl0⟩ := hS.tail
  have hts : s.size ≤ 100000 := by rw [tot_cons] at ht; omega
  have htr : tot rest ≤ 100000 := by rw [tot_cons] at ht; omega
  obtain ⟨A, hA⟩ : ∃ A, firstP 1 s = A := ⟨_, rfl⟩
  have hAfs : A.1.fs = [] := by rw [← hA]; exact firstP_fs _ _
  have hAn : A.1.n = 0 := by rw [← hA]; rfl
  have hAr : A.1.r = ⟨#[]⟩ := by rw [← hA]; rfl
  have hQ := fun (W : World) => rrequest_any s hts (m := A.1.m) (t := A.1.t) (k := A.1.k) (e := A.2) (by rw [← hA]; rfl) W
  have hP : headP 1 fields fold (s :: rest) = if A.2 ≠ 0 then (hd0, A.2) else if fields < (rest.length : Int) then (hd0, 4) else if (allF fold rest).2 ≠ 0 then (hd0, (allF fold rest).2) else ({ A.1 with fs := (allF fold rest).1 }, 0) := by
    unfold headP
    rw [if_neg (by decide)]
    show (if (firstP 1 s).2 ≠ 0 then (hd0, (firstP 1 s).2) else _) = _
    rw [hA]
  obtain ⟨⟨m1, t1, k1, n1, r1, fs1⟩, e1⟩ := A
  have hAfs : fs1 = [] := hAfs
  subst hAfs
  have hAn : n1 = 0 := hAn
  have hAr : r1 = ⟨#[]⟩ := hAr
  subst hAn hAr
  have HQ := Lib.hid hQ
  have HP := Lib.hid hP
  have HTL := Lib.hid (And.intro htl htl0)
  have HTR := Lib.hid htr
  have HMR := Lib.hid hmr
  have hwm : wrap64 (m : Int) = m := IntWalk.wrap64_in _ ⟨Int.le_trans (by decide) (Int.natCast_nonneg m), Int.le_trans (Int.ofNat_le.2 hn) (by decide)⟩
  have hs1 := Lib.hid (fun W (hW : Below w.heap.size w W) => (bcell hW b off (World.block_lt_of_cell? _ _ hs0)).trans hs0)
  have hs2 := hs1.out _ (below_al2 w (.cells #[.int .i64 a, .int .i64 fields, .int .i64 c, .int .i64 d, .int .i64 fold] 36) (.cells #[.string ⟨#[]⟩, .string ⟨#[]⟩, .int .i64 0, .int .i64 0, .string ⟨#[]⟩, .slice none 0 0] 24))
  have hi0 : (0 : Int) < (m : Int) + 1 := by omega
  have hne0 : ((m : Int) + 1 == 0) = false := by rw [beq_eq_false_iff_ne]; omega
  clear hA hQ hP hS htl htl0 htr ht hts hs0 hmr
  by_cases he1 : e1 = 0
  rotate_left
  · have he2 : (e1 != 0) = true := by simpa using he1
    have he3 : (e1 == 0) = false := by simpa using he1
    have hR : headP 1 fields fold (s :: rest) = (hd0, e1) := by rw [HP.out, if_pos he1]
    have HR := Lib.hid hR
    clear hR he1
    go_enter Tryz.func54, Tryz.ntmps54
    go_wp2_with (go_at_call 111; refine (HQ.out _).mono ?_; rintro e1 w2 ⟨rfl, hb⟩; have KL := Lib.hid (((Blk.new w #[.int .i64 a, .int .i64 fields, .int .i64 c, .int .i64 d, .int .i64 fold] 36).alloc (.cells #[.string ⟨#[]⟩, .string ⟨#[]⟩, .int .i64 0, .int .i64 0, .string ⟨#[]⟩, .slice none 0 0] 24)).call hb); have KZ := Lib.hid ((blk_al2 w #[.int .i64 a, .int .i64 fields, .int .i64 c, .int .i64 d, .int .i64 fold] #[.string ⟨#[]⟩, .string ⟨#[]⟩, .int .i64 0, .int .i64 0, .string ⟨#[]⟩, .slice none 0 0] 36 24).call hb); have B2 := Lib.hid (below_two hb); have hz2 := hb.size; clear hb; (try simp at hz2); have KL3 := Lib.hid (KL.out.alloc (.cells #[.string m1, .string t1, .int .i64 k1, .int .i64 0, .string ⟨#[]⟩, .slice none 0 0] 24)); have KZ3 := Lib.hid (KZ.out.alloc (.cells #[.string m1, .string t1, .int .i64 k1, .int .i64 0, .string ⟨#[]⟩, .slice none 0 0] 24)); have z0 := KZ3.out.cell 0; have zf0 := KZ3.out.froz 0; have z1 := KZ3.out.cell 1; have zf1 := KZ3.out.froz 1; have z2 := KZ3.out.cell 2; have zf2 := KZ3.out.froz 2; have z3 := KZ3.out.cell 3; have zf3 := KZ3.out.froz 3; have z4 := KZ3.out.cell 4; have zf4 := KZ3.out.froz 4; have z5 := KZ3.out.cell 5; have zf5 := KZ3.out.froz 5; simp at z0 z1 z2 z3 z4 z5)
    exact bodyPost_ret (results_agg_tmp Tryz.results54 _ _ _ _ rfl (run_loadVar_row _ _ _ _ _ _ _ (blk_set6 KZ3.out _ _ _ _ _ _) Tryz.underlying24 rfl (by kernel_rfl))) rfl ⟨nilS, by rw [HR.out]; rfl, by rw [HR.out]; exact OwnF.start _ _, below_set6 (B2.out.alloc B2.out.size _) (Nat.le_succ _) _ _ _ _ _ _⟩
  subst he1
  by_cases hlo : fields < (m : Int)
  · have hlo2 : decide (fields < (m : Int)) = true := decide_eq_true hlo
    have hR : headP 1 fields fold (s :: rest) = (hd0, 4) := by rw [HP.out, if_neg (by simp), if_pos (by rw [← HMR.out]; exact hlo)]
    have HR := Lib.hid hR
    clear hR
    go_enter Tryz.func54, Tryz.ntmps54
    go_wp2_with (go_at_call 111; refine (HQ.out _).mono ?_; rintro e1 w2 ⟨rfl, hb⟩; have KL := Lib.hid (((Blk.new w #[.int .i64 a, .int .i64 fields, .int .i64 c, .int .i64 d, .int .i64 fold] 36).alloc (.cells #[.string ⟨#[]⟩, .string ⟨#[]⟩, .int .i64 0, .int .i64 0, .string ⟨#[]⟩, .slice none 0 0] 24)).call hb); have KZ := Lib.hid ((blk_al2 w #[.int .i64 a, .int .i64 fields, .int .i64 c, .int .i64 d, .int .i64 fold] #[.string ⟨#[]⟩, .string ⟨#[]⟩, .int .i64 0, .int .i64 0, .string ⟨#[]⟩, .slice none 0 0] 36 24).call hb); have B2 := Lib.hid (below_two hb); have hz2 := hb.size; clear hb; (try simp at hz2); have KL3 := Lib.hid (KL.out.alloc (.cells #[.string m1, .string t1, .int .i64 k1, .int .i64 0, .string ⟨#[]⟩, .slice none 0 0] 24)); have KZ3 := Lib.hid (KZ.out.alloc (.cells #[.string m1, .string t1, .int .i64 k1, .int .i64 0, .string ⟨#[]⟩, .slice none 0 0] 24)); have z0 := KZ3.out.cell 0; have zf0 := KZ3.out.froz 0; have z1 := KZ3.out.cell 1; have zf1 := KZ3.out.froz 1; have z2 := KZ3.out.cell 2; have zf2 := KZ3.out.froz 2; have z3 := KZ3.out.cell 3; have zf3 := KZ3.out.froz 3; have z4 := KZ3.out.cell 4; have zf4 := KZ3.out.froz 4; have z5 := KZ3.out.cell 5; have zf5 := KZ3.out.froz 5; simp at z0 z1 z2 z3 z4 z5; have q0 := KL3.out.cell 0; have qf0 := KL3.out.froz 0; have q1 := KL3.out.cell 1; have qf1 := KL3.out.froz 1; have q2 := KL3.out.cell 2; have qf2 := KL3.out.froz 2; have q3 := KL3.out.cell 3; have qf3 := KL3.out.froz 3; have q4 := KL3.out.cell 4; have qf4 := KL3.out.froz 4; simp at q0 q1 q2 q3 q4)
    exact bodyPost_ret (results_agg_tmp Tryz.results54 _ _ _ _ rfl (run_loadVar_row _ _ _ _ _ _ _ (blk_set6 KZ3.out _ _ _ _ _ _) Tryz.underlying24 rfl (by kernel_rfl))) rfl ⟨nilS, by rw [HR.out]; rfl, by rw [HR.out]; exact OwnF.start _ _, below_set6 (B2.out.alloc B2.out.size _) (Nat.le_succ _) _ _ _ _ _ _⟩
  have hlo2 : decide (fields < (m : Int)) = false := decide_eq_false hlo
  have hR : headP 1 fields fold (s :: rest) = if (allF fold rest).2 ≠ 0 then (hd0, (allF fold rest).2) else (⟨m1, t1, k1, 0, ⟨#[]⟩, (allF fold rest).1⟩, 0) := by rw [HP.out, if_neg (by simp), if_neg (by rw [← HMR.out]; exact hlo)]
  have HR := Lib.hid hR
  clear hR hlo HP
  obtain ⟨tp, htp⟩ : ∃ tp, tp = (if cc = 1 then some (⟨b, off, none⟩ : Addr) else some ⟨b, off + 1, none⟩) := ⟨_, rfl⟩
  have htS : Strs w (.slice tp m (cc - 1)) rest := by
    by_cases hc1 : cc = 1
    · have : m = 0 := by omega
      subst this
      exact HTL.out.2 rfl _ _
    · rw [htp, if_neg hc1]; exact HTL.out.1 _
  have HTS := Lib.hid htS
  have HTP := Lib.hid htp
  obtain ⟨⟨F, ef⟩, hAF⟩ : ∃ x, allF fold rest = x := ⟨_, rfl⟩
  have HFA := Lib.hid (fun (V : World) (hV : Below w.heap.size w V) => rfall_any fold (.slice tp m (cc - 1)) rest V (htS.below hV) (by have := HMR.out; omega) (by have := HTR.out; omega))
  rw [hAF] at HFA HR
  have HI1 := Lib.hid (show (1 : Int) ≤ (m : Int) + 1 by omega)
  clear htS htp hAF
  go_enter Tryz.func54, Tryz.ntmps54
  go_wp2_with (go_at_call 111; refine (HQ.out _).mono ?_; rintro e1 w2 ⟨rfl, hb⟩; have KL := Lib.hid (((Blk.new w #[.int .i64 a, .int .i64 fields, .int .i64 c, .int .i64 d, .int .i64 fold] 36).alloc (.cells #[.string ⟨#[]⟩, .string ⟨#[]⟩, .int .i64 0, .int .i64 0, .string ⟨#[]⟩, .slice none 0 0] 24)).call hb); have KZ := Lib.hid ((blk_al2 w #[.int .i64 a, .int .i64 fields, .int .i64 c, .int .i64 d, .int .i64 fold] #[.string ⟨#[]⟩, .string ⟨#[]⟩, .int .i64 0, .int .i64 0, .string ⟨#[]⟩, .slice none 0 0] 36 24).call hb); have B2 := Lib.hid (below_two hb); have hz2 := hb.size; clear hb; (try simp at hz2); have KL3 := Lib.hid (KL.out.alloc (.cells #[.string m1, .string t1, .int .i64 k1, .int .i64 0, .string ⟨#[]⟩, .slice none 0 0] 24)); have KZ3 := Lib.hid (KZ.out.alloc (.cells #[.string m1, .string t1, .int .i64 k1, .int .i64 0, .string ⟨#[]⟩, .slice none 0 0] 24)); have q0 := KL3.out.cell 0; have qf0 := KL3.out.froz 0; have q1 := KL3.out.cell 1; have qf1 := KL3.out.froz 1; have q2 := KL3.out.cell 2; have qf2 := KL3.out.froz 2; have q3 := KL3.out.cell 3; have qf3 := KL3.out.froz 3; have q4 := KL3.out.cell 4; have qf4 := KL3.out.froz 4; simp at q0 q1 q2 q3 q4)
  refine wp_region_at (S := fun v => Blk v w.heap.size #[.int .i64 a, .int .i64 fields, .int .i64 c, .int .i64 d, .int .i64 fold] 36) (by kernel_rfl) ?_
  intro V0 hV0
  have h0 : Blk V0 w.heap.size #[.int .i64 a, .int .i64 fields, .int .i64 c, .int .i64 d, .int .i64 fold] 36 := by rw [hV0]; exact KL3.out.drew
  have HS : Hid (HpS w #[.int .i64 a, .int .i64 fields, .int .i64 c, .int .i64 d, .int .i64 fold] #[.string m1, .string t1, .int .i64 k1, .int .i64 0, .string ⟨#[]⟩, .slice none 0 0] w2.heap.size V0) := by
    show HpS _ _ _ _ _
    rw [hV0]
    exact ⟨KL3.out.drew, KZ3.out.drew, (Blk.new _ _ _).drew, (B2.out.alloc B2.out.size _).drew, by omega⟩
  clear hV0 KL KZ KL3 KZ3 B2 hlo2
  refine wpAnyH_take (i := 0) (v := .pointer (some ⟨w.heap.size, 4, none⟩)) rfl (by kernel_rfl) (by kernel_rfl) (by kernel_rfl) (fun _ _ _ h => h) (Or.inl ⟨by kernel_rfl, ?hy1⟩) h0 ?rest1
  case hy1 =>
    intro v hv
    clear hv
    go_simp
  (try simp only [Act.put, List.setIfInBounds_toArray, List.set_cons_zero, List.set_cons_succ])
  refine wpAnyH_take (i := 1) (v := .int .i64 fold) rfl (by kernel_rfl) (by kernel_rfl) (by kernel_rfl) (fun _ _ _ h => h) (Or.inl ⟨by kernel_rfl, ?hy2⟩) h0 ?rest2
  case hy2 =>
    intro v hv
    have q := hv.cell 4
    simp at q
    clear hv
    go_simp
  (try simp only [Act.put, List.setIfInBounds_toArray, List.set_cons_zero, List.set_cons_succ])
  refine wpAnyH_take (i := 2) (v := .slice (some ⟨b, off, none⟩) (m + 1) cc) rfl (by kernel_rfl) (by kernel_rfl) (by kernel_rfl) (fun _ _ _ h => h) (Or.inl ⟨by kernel_rfl, ?hy3⟩) h0 ?rest3
  case hy3 =>
    intro v hv
    clear hv
    go_simp
  (try simp only [Act.put, List.setIfInBounds_toArray, List.set_cons_zero, List.set_cons_succ])
  refine wpAnyH_take (i := 3) (v := .slice tp m (cc - 1)) rfl (by kernel_rfl) (by kernel_rfl) (by kernel_rfl) (fun _ _ _ h => h) (Or.inl ⟨by kernel_rfl, ?hy4⟩) h0 ?rest4
  case hy4 =>
    intro v hv
    clear hv
    go_simp
    rw [if_pos HI1.out, HTP.out]
  (try simp only [Act.put, List.setIfInBounds_toArray, List.set_cons_zero, List.set_cons_succ])
  refine wpAnyH_ready (rs := [4]) (by kernel_rfl) (by simp) ?_
  refine AllReadyH.cons rfl (fun K hK => ?_) AllReadyH.nil
  go_simp
  refine (HFA.out _ HS.out.u).mono ?_
  rintro e V1 ⟨f, rfl, hof, hb1⟩
  obtain ⟨pf, cf, rfl⟩ := own_slice hof
  have HS1 := Lib.hid (HS.out.below hb1)
  have HO1 := Lib.hid hof
  have h1 := h0.call hb1
  have HLT := Lib.hid HS.out.h.lt
  have HLE := Lib.hid HS.out.u.size
  clear hof hb1 h0
  refine hK _ _ h1 (fun _ => ?_)
  clear hK K
  (try simp only [Act.put, List.setIfInBounds_toArray, List.set_cons_zero, List.set_cons_succ])
  refine wpAnyH_take (i := 5) (v := .tuple #[.slice pf F.length cf, .int .i64 ef]) rfl (by kernel_rfl) (by kernel_rfl) (by kernel_rfl) (fun _ _ _ h => h) (Or.inl ⟨by kernel_rfl, ?hy5⟩) h1 ?rest5
  case hy5 =>
    intro v hv
    clear hv
    go_simp
  (try simp only [Act.put, List.setIfInBounds_toArray, List.set_cons_zero, List.set_cons_succ])
  refine wpAnyH_take (i := 6) (v := .slice pf F.length cf) rfl (by kernel_rfl) (by kernel_rfl) (by kernel_rfl) (fun _ _ _ h => h) (Or.inl ⟨by kernel_rfl, ?hy6⟩) h1 ?rest6
  case hy6 =>
    intro v hv
    clear hv
    go_simp
  (try simp only [Act.put, List.setIfInBounds_toArray, List.set_cons_zero, List.set_cons_succ])
  refine wpAnyH_take (i := 7) (v := .int .i64 ef) rfl (by kernel_rfl) (by kernel_rfl) (by kernel_rfl) (fun _ _ _ h => h) (Or.inl ⟨by kernel_rfl, ?hy7⟩) h1 ?rest7
  case hy7 =>
    intro v hv
    clear hv
    go_simp
  (try simp only [Act.put, List.setIfInBounds_toArray, List.set_cons_zero, List.set_cons_succ])
  refine wpAnyH_ready (rs := [8]) (by kernel_rfl) (by simp) ?_
  refine AllReadyH.cons rfl (fun K hK => ?_) AllReadyH.nil
  go_simp
  refine hK _ _ h1 (fun _ => ?_)
  clear hK K
  (try simp only [Act.put, List.setIfInBounds_toArray, List.set_cons_zero, List.set_cons_succ])
  refine wpAnyH_ready (rs := [9]) (by kernel_rfl) (by simp) ?_
  refine AllReadyH.cons rfl (fun K hK => ?_) AllReadyH.nil
  go_simp
  refine hK _ _ h1 (fun _ => ?_)
  clear hK K
  (try simp only [Act.put, List.setIfInBounds_toArray, List.set_cons_zero, List.set_cons_succ])
  refine wpAnyH_done (by kernel_rfl) ?_ _
  have HNE := Lib.hid HS1.out.lt
  have HLS := Lib.hid (Nat.lt_trans HS1.out.lt HLT.out)
  clear h1 HS
  by_cases hef : ef = 0
  · subst hef
    have KH0 : Blk (V1.setCell ⟨w2.heap.size, 5, none⟩ (.slice pf F.length cf)) w2.heap.size #[.string m1, .string t1, .int .i64 k1, .int .i64 0, .string ⟨#[]⟩, .slice pf F.length cf] 24 := by
      have := HS1.out.h.set 5 (.slice pf F.length cf)
      simpa using this
    have HKH := Lib.hid KH0
    clear KH0
    have HKZ := Lib.hid (HS1.out.z.far (p := ⟨w2.heap.size, 5, none⟩) (Nat.ne_of_lt HNE.out) (.slice pf F.length cf))
    have HKO := Lib.hid (own_set HO1.out HLT.out 5 (.slice pf F.length cf))
    have HKU := Lib.hid (HS1.out.u.setCell (p := ⟨w2.heap.size, 5, none⟩) (Nat.le_of_lt (Nat.lt_of_succ_lt HNE.out)) (.slice pf F.length cf))
    have a5 := HS1.out.h.cell 5
    have a5f := HS1.out.h.froz 5
    simp at a5
    have z0 : (V1.setCell ⟨w2.heap.size, 5, none⟩ (.slice pf F.length cf)).cell? ⟨w.heap.size + 1, 0, none⟩ = some (.string ⟨#[]⟩) := HKZ.out.cell 0
    have zf0 := HKZ.out.froz 0
    have z1 : (V1.setCell ⟨w2.heap.size, 5, none⟩ (.slice pf F.length cf)).cell? ⟨w.heap.size + 1, 1, none⟩ = some (.string ⟨#[]⟩) := HKZ.out.cell 1
    have zf1 := HKZ.out.froz 1
    have z2 : (V1.setCell ⟨w2.heap.size, 5, none⟩ (.slice pf F.length cf)).cell? ⟨w.heap.size + 1, 2, none⟩ = some (.int .i64 0) := HKZ.out.cell 2
    have zf2 := HKZ.out.froz 2
    have z3 : (V1.setCell ⟨w2.heap.size, 5, none⟩ (.slice pf F.length cf)).cell? ⟨w.heap.size + 1, 3, none⟩ = some (.int .i64 0) := HKZ.out.cell 3
    have zf3 := HKZ.out.froz 3
    have z4 : (V1.setCell ⟨w2.heap.size, 5, none⟩ (.slice pf F.length cf)).cell? ⟨w.heap.size + 1, 4, none⟩ = some (.string ⟨#[]⟩) := HKZ.out.cell 4
    have zf4 := HKZ.out.froz 4
    have z5 : (V1.setCell ⟨w2.heap.size, 5, none⟩ (.slice pf F.length cf)).cell? ⟨w.heap.size + 1, 5, none⟩ = some (.slice none 0 0) := HKZ.out.cell 5
    have zf5 := HKZ.out.froz 5
    have g0 : (V1.setCell ⟨w2.heap.size, 5, none⟩ (.slice pf F.length cf)).cell? ⟨w2.heap.size, 0, none⟩ = some (.string m1) := HKH.out.cell 0
    have g1 : (V1.setCell ⟨w2.heap.size, 5, none⟩ (.slice pf F.length cf)).cell? ⟨w2.heap.size, 1, none⟩ = some (.string t1) := HKH.out.cell 1
    have g2 : (V1.setCell ⟨w2.heap.size, 5, none⟩ (.slice pf F.length cf)).cell? ⟨w2.heap.size, 2, none⟩ = some (.int .i64 k1) := HKH.out.cell 2
    have g3 : (V1.setCell ⟨w2.heap.size, 5, none⟩ (.slice pf F.length cf)).cell? ⟨w2.heap.size, 3, none⟩ = some (.int .i64 0) := HKH.out.cell 3
    have g4 : (V1.setCell ⟨w2.heap.size, 5, none⟩ (.slice pf F.length cf)).cell? ⟨w2.heap.size, 4, none⟩ = some (.string ⟨#[]⟩) := HKH.out.cell 4
    have g5 : (V1.setCell ⟨w2.heap.size, 5, none⟩ (.slice pf F.length cf)).cell? ⟨w2.heap.size, 5, none⟩ = some (.slice pf F.length cf) := HKH.out.cell 5
    clear HS1 HO1
    go_wp2_with fail
    exact bodyPost_ret (results_agg_tmp Tryz.results54 _ _ _ _ rfl (run_loadVar_row _ _ _ _ _ _ _ (blk_set6 HKZ.out _ _ _ _ _ _) Tryz.underlying24 rfl (by kernel_rfl))) rfl ⟨.slice pf F.length cf, by rw [HR.out]; rfl, by rw [HR.out]; exact OwnF.lower (own_set6 HKO.out HLS.out _ _ _ _ _ _) HLE.out, below_set6 HKU.out (Nat.le_succ _) _ _ _ _ _ _⟩
  · have hef2 : (ef != 0) = true := by simpa using hef
    have HR2 : headP 1 fields fold (s :: rest) = (hd0, ef) := by rw [HR.out]; exact if_pos hef
    have HKZ := Lib.hid HS1.out.z
    have z0 := HKZ.out.cell 0
    have zf0 := HKZ.out.froz 0
    have z1 := HKZ.out.cell 1
    have zf1 := HKZ.out.froz 1
    have z2 := HKZ.out.cell 2
    have zf2 := HKZ.out.froz 2
    have z3 := HKZ.out.cell 3
    have zf3 := HKZ.out.froz 3
    have z4 := HKZ.out.cell 4
    have zf4 := HKZ.out.froz 4
    have z5 := HKZ.out.cell 5
    have zf5 := HKZ.out.froz 5
    simp at z0 z1 z2 z3 z4 z5
    clear hef
    go_wp2_with fail
    exact bodyPost_ret (results_agg_tmp Tryz.results54 _ _ _ _ rfl (run_loadVar_row _ _ _ _ _ _ _ (blk_set6 HKZ.out _ _ _ _ _ _) Tryz.underlying24 rfl (by kernel_rfl))) rfl ⟨nilS, by rw [HR2]; rfl, by rw [HR2]; exact OwnF.start _ _, below_set6 HS1.out.u (Nat.le_succ _) _ _ _ _ _ _⟩
set_option maxRecDepth 100000 in
set_option maxHeartbeats 4000000 in
theorem rhparse_go2 (a fields c d fold : Int) (b off m cc : Nat) (s : ByteArray) (rest : List ByteArray) (w : World) (hS : Strs w (.slice (some ⟨b, off, none⟩) (m + 1) cc) (s :: rest)) (hcap : m + 1 ≤ cc) (hn : m ≤ 100000) (ht : tot (s :: rest) ≤ 100000) :
    Calls Tryz.prog 54 #[.int .i64 2, .agg #[.int .i64 a, .int .i64 fields, .int .i64 c, .int .i64 d, .int .i64 fold], .slice (some ⟨b, off, none⟩) (m + 1) cc] w fun e w' => ∃ f, e = .returned (.tuple #[.agg ((headP 2 fields fold (s :: rest)).1.row f), .int .i64 (headP 2 fields fold (s :: rest)).2]) ∧ OwnF w' w.heap.size f (headP 2 fields fold (s :: rest)).1.fs ∧ Below w.heap.size w w' := by
  obtain ⟨hmr, hs0, htl, htl0⟩ := hS.tail
  have hts : s.size ≤ 100000 := by rw [tot_cons] at ht; omega
  have htr : tot rest ≤ 100000 := by rw [tot_cons] at ht; omega
  obtain ⟨A, hA⟩ : ∃ A, firstP 2 s = A := ⟨_, rfl⟩
  have hAfs : A.1.fs = [] := by rw [← hA]; exact firstP_fs _ _
  have hAm : A.1.m = ⟨#[]⟩ := by rw [← hA]; rfl
  have hAt : A.1.t = ⟨#[]⟩ := by rw [← hA]; rfl
  obtain ⟨⟨⟨mq, tq, kq⟩, eq⟩, hq⟩ : ∃ x, reqRes s = x := ⟨_, rfl⟩
  have hQ := fun (W : World) => rrequest_any s hts hq W
  have hT := fun (W : World) => rstatus_any s hts (k := A.1.k) (n := A.1.n) (r := A.1.r) (e := A.2) (by rw [← hA]; rfl) W
  have hP : headP 2 fields fold (s :: rest) = if A.2 ≠ 0 then (hd0, A.2) else if fields < (rest.length : Int) then (hd0, 4) else if (allF fold rest).2 ≠ 0 then (hd0, (allF fold rest).2) else ({ A.1 with fs := (allF fold rest).1 }, 0) := by
    unfold headP
    rw [if_neg (by decide)]
    show (if (firstP 2 s).2 ≠ 0 then (hd0, (firstP 2 s).2) else _) = _
    rw [hA]
  obtain ⟨⟨m1, t1, k1, n1, r1, fs1⟩, e1⟩ := A
  have hAfs : fs1 = [] := hAfs
  subst hAfs
  have hAm : m1 = ⟨#[]⟩ := hAm
  have hAt : t1 = ⟨#[]⟩ := hAt
  subst hAm hAt
  have HT := Lib.hid hT
  clear hT hq
  have HQ := Lib.hid hQ
  have HP := Lib.hid hP
  have HTL := Lib.hid (And.intro htl htl0)
  have HTR := Lib.hid htr
  have HMR := Lib.hid hmr
  have hwm : wrap64 (m : Int) = m := IntWalk.wrap64_in _ ⟨Int.le_trans (by decide) (Int.natCast_nonneg m), Int.le_trans (Int.ofNat_le.2 hn) (by decide)⟩
  have hs1 := Lib.hid (fun W (hW : Below w.heap.size w W) => (bcell hW b off (World.block_lt_of_cell? _ _ hs0)).trans hs0)
  have hs2 := hs1.out _ (below_al2 w (.cells #[.int .i64 a, .int .i64 fields, .int .i64 c, .int .i64 d, .int .i64 fold] 36) (.cells #[.string ⟨#[]⟩, .string ⟨#[]⟩, .int .i64 0, .int .i64 0, .string ⟨#[]⟩, .slice none 0 0] 24))
  have hi0 : (0 : Int) < (m : Int) + 1 := by omega
  have hne0 : ((m : Int) + 1 == 0) = false := by rw [beq_eq_false_iff_ne]; omega
  clear hA hQ hP hS htl htl0 htr ht hts hs0 hmr
  by_cases he1 : e1 = 0
  rotate_left
  · have he2 : (e1 != 0) = true := by simpa using he1
    have he3 : (e1 == 0) = false := by simpa using he1
    have hR : headP 2 fields fold (s :: rest) = (hd0, e1) := by rw [HP.out, if_pos he1]
    have HR := Lib.hid hR
    clear hR he1
    go_enter Tryz.func54, Tryz.ntmps54
    go_upto_region 8 with (first | (go_at_call 111; refine (HQ.out _).mono ?_; rintro e1 w2 ⟨rfl, hb⟩; have KL := Lib.hid (((Blk.new w #[.int .i64 a, .int .i64 fields, .int .i64 c, .int .i64 d, .int .i64 fold] 36).alloc (.cells #[.string ⟨#[]⟩, .string ⟨#[]⟩, .int .i64 0, .int .i64 0, .string ⟨#[]⟩, .slice none 0 0] 24)).call hb); have KZ := Lib.hid ((blk_al2 w #[.int .i64 a, .int .i64 fields, .int .i64 c, .int .i64 d, .int .i64 fold] #[.string ⟨#[]⟩, .string ⟨#[]⟩, .int .i64 0, .int .i64 0, .string ⟨#[]⟩, .slice none 0 0] 36 24).call hb); have B2 := Lib.hid (below_two hb); have hz2 := hb.size; clear hb; (try simp at hz2); have KL3 := Lib.hid (KL.out.alloc (.cells #[.string mq, .string tq, .int .i64 kq, .int .i64 0, .string ⟨#[]⟩, .slice none 0 0] 24)); have KZ3 := Lib.hid (KZ.out.alloc (.cells #[.string mq, .string tq, .int .i64 kq, .int .i64 0, .string ⟨#[]⟩, .slice none 0 0] 24)); have hs3 := hs1.out _ (B2.out.alloc B2.out.size (.cells #[.string mq, .string tq, .int .i64 kq, .int .i64 0, .string ⟨#[]⟩, .slice none 0 0] 24))) | (go_at_call 112; refine (HT.out _).mono ?_; rintro e2 w3 ⟨rfl, hb3⟩; have KL4 := Lib.hid (KL3.out.call hb3); have KZ4 := Lib.hid (KZ3.out.call hb3); have KH4 := Lib.hid ((Blk.new w2 #[.string mq, .string tq, .int .i64 kq, .int .i64 0, .string ⟨#[]⟩, .slice none 0 0] 24).call hb3); have B3 := Lib.hid ((B2.out.alloc B2.out.size (.cells #[.string mq, .string tq, .int .i64 kq, .int .i64 0, .string ⟨#[]⟩, .slice none 0 0] 24)).trans (hb3.mono (by have := B2.out.size; simp; omega))); clear hb3; have h0 := KH4.out.cell 0; have hf0 := KH4.out.froz 0; have h1 := KH4.out.cell 1; have hf1 := KH4.out.froz 1; have h2 := KH4.out.cell 2; have hf2 := KH4.out.froz 2; have h3 := KH4.out.cell 3; have hf3 := KH4.out.froz 3; have h4 := KH4.out.cell 4; have hf4 := KH4.out.froz 4; have h5 := KH4.out.cell 5; have hf5 := KH4.out.froz 5; simp at h0 h1 h2 h3 h4 h5))
    refine wp_here 8 ?_
    intro w4 hw4
    have KL5 : Hid (Blk w4 w.heap.size #[.int .i64 a, .int .i64 fields, .int .i64 c, .int .i64 d, .int .i64 fold] 36) := by
      show Blk _ _ _ _
      rw [hw4]
      exact blk_far6 KL4.out (by omega) (.string ⟨#[]⟩) (.string ⟨#[]⟩) (.int .i64 k1) (.int .i64 n1) (.string r1) (.slice none 0 0) (g := w2.heap.size)
    have KZ5 : Hid (Blk w4 (w.heap.size + 1) #[.string ⟨#[]⟩, .string ⟨#[]⟩, .int .i64 0, .int .i64 0, .string ⟨#[]⟩, .slice none 0 0] 24) := by
      show Blk _ _ _ _
      rw [hw4]
      exact blk_far6 KZ4.out (by omega) (.string ⟨#[]⟩) (.string ⟨#[]⟩) (.int .i64 k1) (.int .i64 n1) (.string r1) (.slice none 0 0) (g := w2.heap.size)
    have KH5 : Hid (Blk w4 w2.heap.size #[.string ⟨#[]⟩, .string ⟨#[]⟩, .int .i64 k1, .int .i64 n1, .string r1, .slice none 0 0] 24) := by
      show Blk _ _ _ _
      rw [hw4]
      exact blk_set6 KH4.out (.string ⟨#[]⟩) (.string ⟨#[]⟩) (.int .i64 k1) (.int .i64 n1) (.string r1) (.slice none 0 0)
    have B4 : Hid (Below w.heap.size w w4) := by
      show Below _ _ _
      rw [hw4]
      exact below_set6 B3.out (show w.heap.size ≤ w2.heap.size by omega) (.string ⟨#[]⟩) (.string ⟨#[]⟩) (.int .i64 k1) (.int .i64 n1) (.string r1) (.slice none 0 0)
    clear hw4 h0 hf0 h1 hf1 h2 hf2 h3 hf3 h4 hf4 h5 hf5
    have z0 := KZ5.out.cell 0
    have zf0 := KZ5.out.froz 0
    have z1 := KZ5.out.cell 1
    have zf1 := KZ5.out.froz 1
    have z2 := KZ5.out.cell 2
    have zf2 := KZ5.out.froz 2
    have z3 := KZ5.out.cell 3
    have zf3 := KZ5.out.froz 3
    have z4 := KZ5.out.cell 4
    have zf4 := KZ5.out.froz 4
    have z5 := KZ5.out.cell 5
    have zf5 := KZ5.out.froz 5
    simp at z0 z1 z2 z3 z4 z5
    go_wp2_with fail
    exact bodyPost_ret (results_agg_tmp Tryz.results54 _ _ _ _ rfl (run_loadVar_row _ _ _ _ _ _ _ (blk_set6 KZ5.out _ _ _ _ _ _) Tryz.underlying24 rfl (by kernel_rfl))) rfl ⟨nilS, by rw [HR.out]; rfl, by rw [HR.out]; exact OwnF.start _ _, below_set6 B4.out (Nat.le_succ _) _ _ _ _ _ _⟩
  subst he1
  by_cases hlo : fields < (m : Int)
  · have hlo2 : decide (fields < (m : Int)) = true := decide_eq_true hlo
    have hR : headP 2 fields fold (s :: rest) = (hd0, 4) := by rw [HP.out, if_neg (by simp), if_pos (by rw [← HMR.out]; exact hlo)]
    have HR := Lib.hid hR
    clear hR
    go_enter Tryz.func54, Tryz.ntmps54
    go_upto_region 8 with (first | (go_at_call 111; refine (HQ.out _).mono ?_; rintro e1 w2 ⟨rfl, hb⟩; have KL := Lib.hid (((Blk.new w #[.int .i64 a, .int .i64 fields, .int .i64 c, .int .i64 d, .int .i64 fold] 36).alloc (.cells #[.string ⟨#[]⟩, .string ⟨#[]⟩, .int .i64 0, .int .i64 0, .string ⟨#[]⟩, .slice none 0 0] 24)).call hb); have KZ := Lib.hid ((blk_al2 w #[.int .i64 a, .int .i64 fields, .int .i64 c, .int .i64 d, .int .i64 fold] #[.string ⟨#[]⟩, .string ⟨#[]⟩, .int .i64 0, .int .i64 0, .string ⟨#[]⟩, .slice none 0 0] 36 24).call hb); have B2 := Lib.hid (below_two hb); have hz2 := hb.size; clear hb; (try simp at hz2); have KL3 := Lib.hid (KL.out.alloc (.cells #[.string mq, .string tq, .int .i64 kq, .int .i64 0, .string ⟨#[]⟩, .slice none 0 0] 24)); have KZ3 := Lib.hid (KZ.out.alloc (.cells #[.string mq, .string tq, .int .i64 kq, .int .i64 0, .string ⟨#[]⟩, .slice none 0 0] 24)); have hs3 := hs1.out _ (B2.out.alloc B2.out.size (.cells #[.string mq, .string tq, .int .i64 kq, .int .i64 0, .string ⟨#[]⟩, .slice none 0 0] 24))) | (go_at_call 112; refine (HT.out _).mono ?_; rintro e2 w3 ⟨rfl, hb3⟩; have KL4 := Lib.hid (KL3.out.call hb3); have KZ4 := Lib.hid (KZ3.out.call hb3); have KH4 := Lib.hid ((Blk.new w2 #[.string mq, .string tq, .int .i64 kq, .int .i64 0, .string ⟨#[]⟩, .slice none 0 0] 24).call hb3); have B3 := Lib.hid ((B2.out.alloc B2.out.size (.cells #[.string mq, .string tq, .int .i64 kq, .int .i64 0, .string ⟨#[]⟩, .slice none 0 0] 24)).trans (hb3.mono (by have := B2.out.size; simp; omega))); clear hb3; have h0 := KH4.out.cell 0; have hf0 := KH4.out.froz 0; have h1 := KH4.out.cell 1; have hf1 := KH4.out.froz 1; have h2 := KH4.out.cell 2; have hf2 := KH4.out.froz 2; have h3 := KH4.out.cell 3; have hf3 := KH4.out.froz 3; have h4 := KH4.out.cell 4; have hf4 := KH4.out.froz 4; have h5 := KH4.out.cell 5; have hf5 := KH4.out.froz 5; simp at h0 h1 h2 h3 h4 h5))
    refine wp_here 8 ?_
    intro w4 hw4
    have KL5 : Hid (Blk w4 w.heap.size #[.int .i64 a, .int .i64 fields, .int .i64 c, .int .i64 d, .int .i64 fold] 36) := by
      show Blk _ _ _ _
      rw [hw4]
      exact blk_far6 KL4.out (by omega) (.string ⟨#[]⟩) (.string ⟨#[]⟩) (.int .i64 k1) (.int .i64 n1) (.string r1) (.slice none 0 0) (g := w2.heap.size)
    have KZ5 : Hid (Blk w4 (w.heap.size + 1) #[.string ⟨#[]⟩, .string ⟨#[]⟩, .int .i64 0, .int .i64 0, .string ⟨#[]⟩, .slice none 0 0] 24) := by
      show Blk _ _ _ _
      rw [hw4]
      exact blk_far6 KZ4.out (by omega) (.string ⟨#[]⟩) (.string ⟨#[]⟩) (.int .i64 k1) (.int .i64 n1) (.string r1) (.slice none 0 0) (g := w2.heap.size)
    have KH5 : Hid (Blk w4 w2.heap.size #[.string ⟨#[]⟩, .string ⟨#[]⟩, .int .i64 k1, .int .i64 n1, .string r1, .slice none 0 0] 24) := by
      show Blk _ _ _ _
      rw [hw4]
      exact blk_set6 KH4.out (.string ⟨#[]⟩) (.string ⟨#[]⟩) (.int .i64 k1) (.int .i64 n1) (.string r1) (.slice none 0 0)
    have B4 : Hid (Below w.heap.size w w4) := by
      show Below _ _ _
      rw [hw4]
      exact below_set6 B3.out (show w.heap.size ≤ w2.heap.size by omega) (.string ⟨#[]⟩) (.string ⟨#[]⟩) (.int .i64 k1) (.int .i64 n1) (.string r1) (.slice none 0 0)
    clear hw4 h0 hf0 h1 hf1 h2 hf2 h3 hf3 h4 hf4 h5 hf5
    have z0 := KZ5.out.cell 0
    have zf0 := KZ5.out.froz 0
    have z1 := KZ5.out.cell 1
    have zf1 := KZ5.out.froz 1
    have z2 := KZ5.out.cell 2
    have zf2 := KZ5.out.froz 2
    have z3 := KZ5.out.cell 3
    have zf3 := KZ5.out.froz 3
    have z4 := KZ5.out.cell 4
    have zf4 := KZ5.out.froz 4
    have z5 := KZ5.out.cell 5
    have zf5 := KZ5.out.froz 5
    simp at z0 z1 z2 z3 z4 z5
    have q0 := KL5.out.cell 0
    have qf0 := KL5.out.froz 0
    have q1 := KL5.out.cell 1
    have qf1 := KL5.out.froz 1
    have q2 := KL5.out.cell 2
    have qf2 := KL5.out.froz 2
    have q3 := KL5.out.cell 3
    have qf3 := KL5.out.froz 3
    have q4 := KL5.out.cell 4
    have qf4 := KL5.out.froz 4
    simp at q0 q1 q2 q3 q4
    go_wp2_with fail
    exact bodyPost_ret (results_agg_tmp Tryz.results54 _ _ _ _ rfl (run_loadVar_row _ _ _ _ _ _ _ (blk_set6 KZ5.out _ _ _ _ _ _) Tryz.underlying24 rfl (by kernel_rfl))) rfl ⟨nilS, by rw [HR.out]; rfl, by rw [HR.out]; exact OwnF.start _ _, below_set6 B4.out (Nat.le_succ _) _ _ _ _ _ _⟩
  have hlo2 : decide (fields < (m : Int)) = false := decide_eq_false hlo
  have hR : headP 2 fields fold (s :: rest) = if (allF fold rest).2 ≠ 0 then (hd0, (allF fold rest).2) else (⟨⟨#[]⟩, ⟨#[]⟩, k1, n1, r1, (allF fold rest).1⟩, 0) := by rw [HP.out, if_neg (by simp), if_neg (by rw [← HMR.out]; exact hlo)]
  have HR := Lib.hid hR
  clear hR hlo HP
  obtain ⟨tp, htp⟩ : ∃ tp, tp = (if cc = 1 then some (⟨b, off, none⟩ : Addr) else some ⟨b, off + 1, none⟩) := ⟨_, rfl⟩
  have htS : Strs w (.slice tp m (cc - 1)) rest := by
    by_cases hc1 : cc = 1
    · have : m = 0 := by omega
      subst this
      exact HTL.out.2 rfl _ _
    · rw [htp, if_neg hc1]; exact HTL.out.1 _
  have HTS := Lib.hid htS
  have HTP := Lib.hid htp
  obtain ⟨⟨F, ef⟩, hAF⟩ : ∃ x, allF fold rest = x := ⟨_, rfl⟩
  have HFA := Lib.hid (fun (V : World) (hV : Below w.heap.size w V) => rfall_any fold (.slice tp m (cc - 1)) rest V (htS.below hV) (by have := HMR.out; omega) (by have := HTR.out; omega))
  rw [hAF] at HFA HR
  have HI1 := Lib.hid (show (1 : Int) ≤ (m : Int) + 1 by omega)
  clear htS htp hAF
  go_enter Tryz.func54, Tryz.ntmps54
  go_upto_region 8 with (first | (go_at_call 111; refine (HQ.out _).mono ?_; rintro e1 w2 ⟨rfl, hb⟩; have KL := Lib.hid (((Blk.new w #[.int .i64 a, .int .i64 fields, .int .i64 c, .int .i64 d, .int .i64 fold] 36).alloc (.cells #[.string ⟨#[]⟩, .string ⟨#[]⟩, .int .i64 0, .int .i64 0, .string ⟨#[]⟩, .slice none 0 0] 24)).call hb); have KZ := Lib.hid ((blk_al2 w #[.int .i64 a, .int .i64 fields, .int .i64 c, .int .i64 d, .int .i64 fold] #[.string ⟨#[]⟩, .string ⟨#[]⟩, .int .i64 0, .int .i64 0, .string ⟨#[]⟩, .slice none 0 0] 36 24).call hb); have B2 := Lib.hid (below_two hb); have hz2 := hb.size; clear hb; (try simp at hz2); have KL3 := Lib.hid (KL.out.alloc (.cells #[.string mq, .string tq, .int .i64 kq, .int .i64 0, .string ⟨#[]⟩, .slice none 0 0] 24)); have KZ3 := Lib.hid (KZ.out.alloc (.cells #[.string mq, .string tq, .int .i64 kq, .int .i64 0, .string ⟨#[]⟩, .slice none 0 0] 24)); have hs3 := hs1.out _ (B2.out.alloc B2.out.size (.cells #[.string mq, .string tq, .int .i64 kq, .int .i64 0, .string ⟨#[]⟩, .slice none 0 0] 24))) | (go_at_call 112; refine (HT.out _).mono ?_; rintro e2 w3 ⟨rfl, hb3⟩; have KL4 := Lib.hid (KL3.out.call hb3); have KZ4 := Lib.hid (KZ3.out.call hb3); have KH4 := Lib.hid ((Blk.new w2 #[.string mq, .string tq, .int .i64 kq, .int .i64 0, .string ⟨#[]⟩, .slice none 0 0] 24).call hb3); have B3 := Lib.hid ((B2.out.alloc B2.out.size (.cells #[.string mq, .string tq, .int .i64 kq, .int .i64 0, .string ⟨#[]⟩, .slice none 0 0] 24)).trans (hb3.mono (by have := B2.out.size; simp; omega))); clear hb3; have h0 := KH4.out.cell 0; have hf0 := KH4.out.froz 0; have h1 := KH4.out.cell 1; have hf1 := KH4.out.froz 1; have h2 := KH4.out.cell 2; have hf2 := KH4.out.froz 2; have h3 := KH4.out.cell 3; have hf3 := KH4.out.froz 3; have h4 := KH4.out.cell 4; have hf4 := KH4.out.froz 4; have h5 := KH4.out.cell 5; have hf5 := KH4.out.froz 5; simp at h0 h1 h2 h3 h4 h5))
  refine wp_here 8 ?_
  intro w4 hw4
  have KL5 : Hid (Blk w4 w.heap.size #[.int .i64 a, .int .i64 fields, .int .i64 c, .int .i64 d, .int .i64 fold] 36) := by
    show Blk _ _ _ _
    rw [hw4]
    exact blk_far6 KL4.out (by omega) (.string ⟨#[]⟩) (.string ⟨#[]⟩) (.int .i64 k1) (.int .i64 n1) (.string r1) (.slice none 0 0) (g := w2.heap.size)
  have KZ5 : Hid (Blk w4 (w.heap.size + 1) #[.string ⟨#[]⟩, .string ⟨#[]⟩, .int .i64 0, .int .i64 0, .string ⟨#[]⟩, .slice none 0 0] 24) := by
    show Blk _ _ _ _
    rw [hw4]
    exact blk_far6 KZ4.out (by omega) (.string ⟨#[]⟩) (.string ⟨#[]⟩) (.int .i64 k1) (.int .i64 n1) (.string r1) (.slice none 0 0) (g := w2.heap.size)
  have KH5 : Hid (Blk w4 w2.heap.size #[.string ⟨#[]⟩, .string ⟨#[]⟩, .int .i64 k1, .int .i64 n1, .string r1, .slice none 0 0] 24) := by
    show Blk _ _ _ _
    rw [hw4]
    exact blk_set6 KH4.out (.string ⟨#[]⟩) (.string ⟨#[]⟩) (.int .i64 k1) (.int .i64 n1) (.string r1) (.slice none 0 0)
  have B4 : Hid (Below w.heap.size w w4) := by
    show Below _ _ _
    rw [hw4]
    exact below_set6 B3.out (show w.heap.size ≤ w2.heap.size by omega) (.string ⟨#[]⟩) (.string ⟨#[]⟩) (.int .i64 k1) (.int .i64 n1) (.string r1) (.slice none 0 0)
  clear hw4 h0 hf0 h1 hf1 h2 hf2 h3 hf3 h4 hf4 h5 hf5
  have q0 := KL5.out.cell 0
  have qf0 := KL5.out.froz 0
  have q1 := KL5.out.cell 1
  have qf1 := KL5.out.froz 1
  have q2 := KL5.out.cell 2
  have qf2 := KL5.out.froz 2
  have q3 := KL5.out.cell 3
  have qf3 := KL5.out.froz 3
  have q4 := KL5.out.cell 4
  have qf4 := KL5.out.froz 4
  simp at q0 q1 q2 q3 q4
  go_wp2_with fail
  refine wp_region_at (S := fun v => Blk v w.heap.size #[.int .i64 a, .int .i64 fields, .int .i64 c, .int .i64 d, .int .i64 fold] 36) (by kernel_rfl) ?_
  intro V0 hV0
  have h0 : Blk V0 w.heap.size #[.int .i64 a, .int .i64 fields, .int .i64 c, .int .i64 d, .int .i64 fold] 36 := by rw [hV0]; exact KL5.out.drew
  have HS : Hid (HpS w #[.int .i64 a, .int .i64 fields, .int .i64 c, .int .i64 d, .int .i64 fold] #[.string ⟨#[]⟩, .string ⟨#[]⟩, .int .i64 k1, .int .i64 n1, .string r1, .slice none 0 0] w2.heap.size V0) := by
    show HpS _ _ _ _ _
    rw [hV0]
    exact ⟨KL5.out.drew, KZ5.out.drew, KH5.out.drew, B4.out.drew, by omega⟩
  clear hV0 KL KZ KL3 KZ3 B2 hlo2
  refine wpAnyH_take (i := 0) (v := .pointer (some ⟨w.heap.size, 4, none⟩)) rfl (by kernel_rfl) (by kernel_rfl) (by kernel_rfl) (fun _ _ _ h => h) (Or.inl ⟨by kernel_rfl, ?hy8⟩) h0 ?rest8
  case hy8 =>
    intro v hv
    clear hv
    go_simp
  (try simp only [Act.put, List.setIfInBounds_toArray, List.set_cons_zero, List.set_cons_succ])
  refine wpAnyH_take (i := 1) (v := .int .i64 fold) rfl (by kernel_rfl) (by kernel_rfl) (by kernel_rfl) (fun _ _ _ h => h) (Or.inl ⟨by kernel_rfl, ?hy9⟩) h0 ?rest9
  case hy9 =>
    intro v hv
    have q := hv.cell 4
    simp at q
    clear hv
    go_simp
  (try simp only [Act.put, List.setIfInBounds_toArray, List.set_cons_zero, List.set_cons_succ])
  refine wpAnyH_take (i := 2) (v := .slice (some ⟨b, off, none⟩) (m + 1) cc) rfl (by kernel_rfl) (by kernel_rfl) (by kernel_rfl) (fun _ _ _ h => h) (Or.inl ⟨by kernel_rfl, ?hy10⟩) h0 ?rest10
  case hy10 =>
    intro v hv
    clear hv
    go_simp
  (try simp only [Act.put, List.setIfInBounds_toArray, List.set_cons_zero, List.set_cons_succ])
  refine wpAnyH_take (i := 3) (v := .slice tp m (cc - 1)) rfl (by kernel_rfl) (by kernel_rfl) (by kernel_rfl) (fun _ _ _ h => h) (Or.inl ⟨by kernel_rfl, ?hy11⟩) h0 ?rest11
  case hy11 =>
    intro v hv
    clear hv
    go_simp
    rw [if_pos HI1.out, HTP.out]
  (try simp only [Act.put, List.setIfInBounds_toArray, List.set_cons_zero, List.set_cons_succ])
  refine wpAnyH_ready (rs := [4]) (by kernel_rfl) (by simp) ?_
  refine AllReadyH.cons rfl (fun K hK => ?_) AllReadyH.nil
  go_simp
  refine (HFA.out _ HS.out.u).mono ?_
  rintro e V1 ⟨f, rfl, hof, hb1⟩
  obtain ⟨pf, cf, rfl⟩ := own_slice hof
  have HS1 := Lib.hid (HS.out.below hb1)
  have HO1 := Lib.hid hof
  have h1 := h0.call hb1
  have HLT := Lib.hid HS.out.h.lt
  have HLE := Lib.hid HS.out.u.size
  clear hof hb1 h0
  refine hK _ _ h1 (fun _ => ?_)
  clear hK K
  (try simp only [Act.put, List.setIfInBounds_toArray, List.set_cons_zero, List.set_cons_succ])
  refine wpAnyH_take (i := 5) (v := .tuple #[.slice pf F.length cf, .int .i64 ef]) rfl (by kernel_rfl) (by kernel_rfl) (by kernel_rfl) (fun _ _ _ h => h) (Or.inl ⟨by kernel_rfl, ?hy12⟩) h1 ?rest12
  case hy12 =>
    intro v hv
    clear hv
    go_simp
  (try simp only [Act.put, List.setIfInBounds_toArray, List.set_cons_zero, List.set_cons_succ])
  refine wpAnyH_take (i := 6) (v := .slice pf F.length cf) rfl (by kernel_rfl) (by kernel_rfl) (by kernel_rfl) (fun _ _ _ h => h) (Or.inl ⟨by kernel_rfl, ?hy13⟩) h1 ?rest13
  case hy13 =>
    intro v hv
    clear hv
    go_simp
  (try simp only [Act.put, List.setIfInBounds_toArray, List.set_cons_zero, List.set_cons_succ])
  refine wpAnyH_take (i := 7) (v := .int .i64 ef) rfl (by kernel_rfl) (by kernel_rfl) (by kernel_rfl) (fun _ _ _ h => h) (Or.inl ⟨by kernel_rfl, ?hy14⟩) h1 ?rest14
  case hy14 =>
    intro v hv
    clear hv
    go_simp
  (try simp only [Act.put, List.setIfInBounds_toArray, List.set_cons_zero, List.set_cons_succ])
  refine wpAnyH_ready (rs := [8]) (by kernel_rfl) (by simp) ?_
  refine AllReadyH.cons rfl (fun K hK => ?_) AllReadyH.nil
  go_simp
  refine hK _ _ h1 (fun _ => ?_)
  clear hK K
  (try simp only [Act.put, List.setIfInBounds_toArray, List.set_cons_zero, List.set_cons_succ])
  refine wpAnyH_ready (rs := [9]) (by kernel_rfl) (by simp) ?_
  refine AllReadyH.cons rfl (fun K hK => ?_) AllReadyH.nil
  go_simp
  refine hK _ _ h1 (fun _ => ?_)
  clear hK K
  (try simp only [Act.put, List.setIfInBounds_toArray, List.set_cons_zero, List.set_cons_succ])
  refine wpAnyH_done (by kernel_rfl) ?_ _
  have HNE := Lib.hid HS1.out.lt
  have HLS := Lib.hid (Nat.lt_trans HS1.out.lt HLT.out)
  clear h1 HS
  by_cases hef : ef = 0
  · subst hef
    have KH0 : Blk (V1.setCell ⟨w2.heap.size, 5, none⟩ (.slice pf F.length cf)) w2.heap.size #[.string ⟨#[]⟩, .string ⟨#[]⟩, .int .i64 k1, .int .i64 n1, .string r1, .slice pf F.length cf] 24 := by
      have := HS1.out.h.set 5 (.slice pf F.length cf)
      simpa using this
    have HKH := Lib.hid KH0
    clear KH0
    have HKZ := Lib.hid (HS1.out.z.far (p := ⟨w2.heap.size, 5, none⟩) (Nat.ne_of_lt HNE.out) (.slice pf F.length cf))
    have HKO := Lib.hid (own_set HO1.out HLT.out 5 (.slice pf F.length cf))
    have HKU := Lib.hid (HS1.out.u.setCell (p := ⟨w2.heap.size, 5, none⟩) (Nat.le_of_lt (Nat.lt_of_succ_lt HNE.out)) (.slice pf F.length cf))
    have a5 := HS1.out.h.cell 5
    have a5f := HS1.out.h.froz 5
    simp at a5
    have z0 : (V1.setCell ⟨w2.heap.size, 5, none⟩ (.slice pf F.length cf)).cell? ⟨w.heap.size + 1, 0, none⟩ = some (.string ⟨#[]⟩) := HKZ.out.cell 0
    have zf0 := HKZ.out.froz 0
    have z1 : (V1.setCell ⟨w2.heap.size, 5, none⟩ (.slice pf F.length cf)).cell? ⟨w.heap.size + 1, 1, none⟩ = some (.string ⟨#[]⟩) := HKZ.out.cell 1
    have zf1 := HKZ.out.froz 1
    have z2 : (V1.setCell ⟨w2.heap.size, 5, none⟩ (.slice pf F.length cf)).cell? ⟨w.heap.size + 1, 2, none⟩ = some (.int .i64 0) := HKZ.out.cell 2
    have zf2 := HKZ.out.froz 2
    have z3 : (V1.setCell ⟨w2.heap.size, 5, none⟩ (.slice pf F.length cf)).cell? ⟨w.heap.size + 1, 3, none⟩ = some (.int .i64 0) := HKZ.out.cell 3
    have zf3 := HKZ.out.froz 3
    have z4 : (V1.setCell ⟨w2.heap.size, 5, none⟩ (.slice pf F.length cf)).cell? ⟨w.heap.size + 1, 4, none⟩ = some (.string ⟨#[]⟩) := HKZ.out.cell 4
    have zf4 := HKZ.out.froz 4
    have z5 : (V1.setCell ⟨w2.heap.size, 5, none⟩ (.slice pf F.length cf)).cell? ⟨w.heap.size + 1, 5, none⟩ = some (.slice none 0 0) := HKZ.out.cell 5
    have zf5 := HKZ.out.froz 5
    have g0 : (V1.setCell ⟨w2.heap.size, 5, none⟩ (.slice pf F.length cf)).cell? ⟨w2.heap.size, 0, none⟩ = some (.string ⟨#[]⟩) := HKH.out.cell 0
    have g1 : (V1.setCell ⟨w2.heap.size, 5, none⟩ (.slice pf F.length cf)).cell? ⟨w2.heap.size, 1, none⟩ = some (.string ⟨#[]⟩) := HKH.out.cell 1
    have g2 : (V1.setCell ⟨w2.heap.size, 5, none⟩ (.slice pf F.length cf)).cell? ⟨w2.heap.size, 2, none⟩ = some (.int .i64 k1) := HKH.out.cell 2
    have g3 : (V1.setCell ⟨w2.heap.size, 5, none⟩ (.slice pf F.length cf)).cell? ⟨w2.heap.size, 3, none⟩ = some (.int .i64 n1) := HKH.out.cell 3
    have g4 : (V1.setCell ⟨w2.heap.size, 5, none⟩ (.slice pf F.length cf)).cell? ⟨w2.heap.size, 4, none⟩ = some (.string r1) := HKH.out.cell 4
    have g5 : (V1.setCell ⟨w2.heap.size, 5, none⟩ (.slice pf F.length cf)).cell? ⟨w2.heap.size, 5, none⟩ = some (.slice pf F.length cf) := HKH.out.cell 5
    clear HS1 HO1
    go_wp2_with fail
    exact bodyPost_ret (results_agg_tmp Tryz.results54 _ _ _ _ rfl (run_loadVar_row _ _ _ _ _ _ _ (blk_set6 HKZ.out _ _ _ _ _ _) Tryz.underlying24 rfl (by kernel_rfl))) rfl ⟨.slice pf F.length cf, by rw [HR.out]; rfl, by rw [HR.out]; exact OwnF.lower (own_set6 HKO.out HLS.out _ _ _ _ _ _) HLE.out, below_set6 HKU.out (Nat.le_succ _) _ _ _ _ _ _⟩
  · have hef2 : (ef != 0) = true := by simpa using hef
    have HR2 : headP 2 fields fold (s :: rest) = (hd0, ef) := by rw [HR.out]; exact if_pos hef
    have HKZ := Lib.hid HS1.out.z
    have z0 := HKZ.out.cell 0
    have zf0 := HKZ.out.froz 0
    have z1 := HKZ.out.cell 1
    have zf1 := HKZ.out.froz 1
    have z2 := HKZ.out.cell 2
    have zf2 := HKZ.out.froz 2
    have z3 := HKZ.out.cell 3
    have zf3 := HKZ.out.froz 3
    have z4 := HKZ.out.cell 4
    have zf4 := HKZ.out.froz 4
    have z5 := HKZ.out.cell 5
    have zf5 := HKZ.out.froz 5
    simp at z0 z1 z2 z3 z4 z5
    clear hef
    go_wp2_with fail
    exact bodyPost_ret (results_agg_tmp Tryz.results54 _ _ _ _ rfl (run_loadVar_row _ _ _ _ _ _ _ (blk_set6 HKZ.out _ _ _ _ _ _) Tryz.underlying24 rfl (by kernel_rfl))) rfl ⟨nilS, by rw [HR2]; rfl, by rw [HR2]; exact OwnF.start _ _, below_set6 HS1.out.u (Nat.le_succ _) _ _ _ _ _ _⟩
end Go.Proofs.YtmoofcmmpemdcaaGreatDoor

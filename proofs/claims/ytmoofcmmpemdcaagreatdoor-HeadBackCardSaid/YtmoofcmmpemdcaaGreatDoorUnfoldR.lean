/- The reference's Unfold. -/
import Derived.Test.YtmoofcmmpemdcaaGreatDoorUnfold
import Derived.Test.YtmoofcmmpemdcaaGreatDoorHeld
set_option linter.unusedSimpArgs false
set_option linter.unusedVariables false
namespace Go.Proofs.YtmoofcmmpemdcaaGreatDoor
open Go.RowKit
theorem news_one (V : World) (J : ByteArray) : ∀ j (hj : j < [J].length), (V.alloc (.cells #[.string J] 9)).cell? ⟨V.heap.size, 0 + j, none⟩ = some (.string [J][j]) := by
  intro j hj
  have e : j = 0 := by simp at hj; omega
  subst e
  exact (Blk.new V #[.string J] 9).cell 0
set_option maxRecDepth 100000 in
set_option maxHeartbeats 4000000 in
theorem runfold_any (fold : Int) (v : Value) (l : List ByteArray) (w : World) (h : Strs w v l) (hn : l.length ≤ 500000) (ht : tot l ≤ 500000) :
    Calls Tryz.prog 162 #[.int .i64 fold, v] w fun e w' => ∃ v', e = .returned (.tuple #[v', .int .i64 (ufRes (ufold fold l))]) ∧ UfRes w' w.heap.size v' (ufold fold l) ∧ Below w.heap.size w w' := by
  obtain ⟨p, c, rfl, hc⟩ := h
  have hc' : ∀ k (hk : k < l.length) (W : World), Below w.heap.size w W → ∃ b off, p = some ⟨b, off, none⟩ ∧ b < w.heap.size ∧ W.cell? ⟨b, off + k, none⟩ = some (.string l[k]) := fun k hk W hW => by
    obtain ⟨b, off, hp, h1⟩ := hc k hk
    exact ⟨b, off, hp, World.block_lt_of_cell? w _ h1, (bcell hW b _ (World.block_lt_of_cell? w _ h1)).trans h1⟩
  have HC := Lib.hid hc'
  have HT := Lib.hid ht
  obtain ⟨F, hF⟩ : ∃ F, F = ufold fold := ⟨_, rfl⟩
  have hF0 : F (l.take 0) = some [] := by rw [hF]; rfl
  have HF0 := Lib.hid hF0
  have hFs : ∀ k (hk : k < l.length), F (l.take (k + 1)) = ufStep fold (F (l.take k)) l[k] := by rw [hF]; exact fun k hk => ufold_snoc fold l k hk
  have HFS := Lib.hid hFs
  have hFn : ∀ k, F (l.take k) = none → F l = none := by rw [hF]; exact fun k => ufold_none fold l k
  have HFN := Lib.hid hFn
  have hFl : ∀ k, k ≤ l.length → ∀ out, F (l.take k) = some out → out.length ≤ k ∧ (0 < k → 0 < out.length) := by rw [hF]; exact ufold_len fold l
  have HFL := Lib.hid hFl
  have hFt : ∀ k, k ≤ l.length → ∀ out, F (l.take k) = some out → ∀ x ∈ out, x.size ≤ 1000000 := by rw [hF]; exact fun k hk out ho x hx => by have := ufold_le hk ho hx; omega
  have HFT := Lib.hid hFt
  rw [show ufold fold l = F l by rw [hF]]
  clear hc hc' ht hF0 hFs hFn hFl hFt hF
  go_enter Tryz.func162, Tryz.ntmps162
  go_wp2_with fail
  go_loopw [6, 7] (fun u6 u7 wr => ∃ (k : Nat) (acc : List ByteArray), k ≤ l.length ∧ u7 = .int .i64 k ∧ F (l.take k) = some acc ∧ OwnS wr w.heap.size u6 acc ∧ Below w.heap.size w wr) (fun _ u7 _ => l.length - (intOf u7).toNat)
  case atStart => exact ⟨0, [], Nat.zero_le _, rfl, HF0.out, OwnS.empty _, (Below.refl _ _).alloc (Nat.le_refl _) _⟩
  case round =>
    obtain ⟨k, acc, hk, rfl, hacc, hown, hb⟩ := hrel
    have HA := Lib.hid hacc
    have HB := Lib.hid hb
    have HO := Lib.hid hown
    clear hacc hb hown
    by_cases hlt : k < l.length
    · have hk1 : decide ((k : Int) < (l.length : Int)) = true := decide_eq_true (by omega)
      obtain ⟨b, off, hp, hblt, h1⟩ := HC.out k hlt wr HB.out
      subst hp
      obtain ⟨s, hs⟩ : ∃ s, s = l[k] := ⟨_, rfl⟩
      rw [← hs] at h1
      have hS := HFS.out k hlt
      rw [HA.out, ← hs] at hS
      have hss : s.size ≤ 500000 := by have := tot_mem (l := l) (x := s) (by rw [hs]; exact List.getElem_mem hlt); have := HT.out; omega
      have HS := Lib.hid hS
      have HSS := Lib.hid hss
      have hal := HFL.out k hk acc HA.out
      have hat := HFT.out k hk acc HA.out
      have HLB := Lib.hid (Nat.lt_of_lt_of_le hblt HB.out.size)
      clear hs hS hss hblt
      cases hg : goesB s with
      | false =>
        have HGO : Hid (∀ W : World, Calls Tryz.prog 204 #[.string s] W fun e w' => e = .returned (.bool false) ∧ W = w') := fun W => by have := rgoes_any s (by have := HSS.out; omega) W; rw [hg] at this; exact this
        have hS2 : F (l.take (k + 1)) = some (acc ++ [s]) := by rw [HS.out]; simp only [ufStep]; rw [if_pos hg]
        have HS2 := Lib.hid hS2
        have HBZ := Lib.hid HB.out.size
        clear hS2 HS hg
        go_wp2_with (first | (go_at_call 204; refine (HGO.out _).mono ?_; rintro e' w' ⟨rfl, rfl⟩) | (at_builtin; refine wpList_push_str rfl _ _ rfl rfl HO.out s rfl (by omega) HBZ.out ?_))
        intro p1 c1 w1 hown1 hg1 hb1
        have HO1 := Lib.hid hown1
        have HB1 := Lib.hid (HB.out.trans hb1)
        clear hown1 hg1 hb1
        go_wp2_with fail
        go_roundw
        case rel => exact ⟨k + 1, acc ++ [s], by omega, by go_num, HS2.out, HO1.out, HB1.out⟩
        case measure => simp [intOf]; omega
      | true =>
        have HGO : Hid (∀ W : World, Calls Tryz.prog 204 #[.string s] W fun e w' => e = .returned (.bool true) ∧ W = w') := fun W => by have := rgoes_any s (by have := HSS.out; omega) W; rw [hg] at this; exact this
        by_cases hf : fold = 0
        · have hf1 : (fold == 0) = true := by rw [beq_iff_eq]; exact hf
          have hS2 : F l = none := HFN.out (k + 1) (by rw [HS.out]; simp only [ufStep]; rw [if_neg (by rw [hg]; simp), if_pos (Or.inl hf)])
          have HS2 := Lib.hid hS2
          clear hS2 HS hg hf
          go_wp2_with (go_at_call 204; refine (HGO.out _).mono ?_; rintro e' w' ⟨rfl, rfl⟩)
          go_ret2
          refine ⟨.slice none 0 0, ?_, ?_, HB.out⟩
          · rw [HS2.out]; rfl
          · rw [HS2.out]; rfl
        · have hf1 : (fold == 0) = false := by rw [beq_eq_false_iff_ne]; exact hf
          by_cases ha : acc = []
          · have hk0 : ((k : Int) == 0) = true := by
              have := hal.2
              rw [ha] at this
              simp at this
              rw [this]; rfl
            have hS2 : F l = none := HFN.out (k + 1) (by rw [HS.out]; simp only [ufStep]; rw [if_neg (by rw [hg]; simp), if_pos (Or.inr ha)])
            have HS2 := Lib.hid hS2
            clear hS2 HS hg hf ha
            go_wp2_with (go_at_call 204; refine (HGO.out _).mono ?_; rintro e' w' ⟨rfl, rfl⟩)
            go_ret2
            refine ⟨.slice none 0 0, ?_, ?_, HB.out⟩
            · rw [HS2.out]; rfl
            · rw [HS2.out]; rfl
          · obtain ⟨m, hm⟩ : ∃ m, acc.length = m + 1 := ⟨acc.length - 1, by cases acc with | nil => exact absurd rfl ha | cons a t => simp⟩
            have hk0 : ((k : Int) == 0) = false := by rw [beq_eq_false_iff_ne]; omega
            obtain ⟨x, hx⟩ : ∃ x, acc[m]? = some x := ⟨_, List.getElem?_eq_getElem (by omega)⟩
            obtain ⟨J, hJ⟩ : ∃ J, J = joinB x s := ⟨_, rfl⟩
            have hS2 : F (l.take (k + 1)) = some (acc.take m ++ [J]) := by
              rw [HS.out]; simp only [ufStep]; rw [if_neg (by rw [hg]; simp), if_neg (by rintro (e | e); exact hf e; exact ha e)]
              rw [show acc.length - 1 = m by omega, List.getD_eq_getElem?_getD, hx, hJ]
              rw [List.set_eq_take_append_cons_drop, if_pos (by omega), List.drop_of_length_le (by omega)]
              rfl
            obtain ⟨g, cap, cur, rfl, hgb, hgg, hcl, htk⟩ := HO.out.block (by omega)
            have hOm := HO.out
            have hxs := hat x (List.mem_of_getElem? hx)
            obtain ⟨A, hA⟩ : ∃ A, A = endB x ++ ⟨#[32]⟩ := ⟨_, rfl⟩
            obtain ⟨E, hE⟩ : ∃ E, E = endB x := ⟨_, rfl⟩
            obtain ⟨T, hT⟩ : ∃ T, T = trimB s := ⟨_, rfl⟩
            have hEs : E.size ≤ x.size := by rw [hE]; exact endB_size x
            have hTs : T.size ≤ s.size := by rw [hT]; exact trimB_size s
            rw [← hE] at hA
            have hAs : A.size = E.size + 1 := by rw [hA, ByteArray.size_append]; rfl
            have hJe : J = A ++ T := by rw [hJ, hA, hE, hT]; rfl
            have hls1 : (⟨#[32]⟩ : ByteArray).size = 1 := rfl
            have hadd1 : ∀ W : World, (Op.stringOp .add E ⟨#[32]⟩).run Tryz.prog W = .ok (.string A) W := fun W => (run_string_add_sum (P := Tryz.prog) (w := W) E ⟨#[32]⟩ (by omega)).trans (by rw [← hA])
            have hadd2 : ∀ W : World, (Op.stringOp .add A T).run Tryz.prog W = .ok (.string J) W := fun W => (run_string_add_sum (P := Tryz.prog) (w := W) A T (by have := HSS.out; omega)).trans (by rw [← hJe])
            have HE : Hid (∀ W : World, Calls Tryz.prog 205 #[.string x] W fun e w' => e = .returned (.string E) ∧ W = w') := fun W => by rw [hE]; exact rend_any x (by omega) W
            have HTR : Hid (∀ W : World, Calls Tryz.prog 138 #[.string s] W fun e w' => e = .returned (.string T) ∧ W = w') := fun W => by rw [hT]; exact rtrim_any s (by have := HSS.out; omega) W
            have hlg : g < wr.heap.size := (Array.getElem?_eq_some_iff.1 hgg).1
            have hxc : wr.cell? ⟨g, m, none⟩ = some (.string x) := by
              have := hOm.cell m (by omega)
              rw [List.getElem?_eq_getElem (by omega)] at hx
              rw [Option.some.inj hx] at this
              exact this
            have hnew : ∀ W, Below wr.heap.size wr W → ∀ j (h : j < (acc.take m).length), W.cell? ⟨g, 0 + j, none⟩ = some (.string (acc.take m)[j]) := fun W hW j hj => by
              have hj' : j < acc.length := by simp at hj; omega
              rw [Nat.zero_add, List.getElem_take]
              exact (bcell hW g _ hlg).trans (hOm.cell j hj')
            have hlt' : m = (acc.take m).length := by simp; omega
            have HS2 := Lib.hid hS2
            have HLG := Lib.hid hlg
            have HX := Lib.hid hxc
            have HNEW := Lib.hid hnew
            have HLT := Lib.hid hlt'
            have hcap := hOm.cap
            have hm0 : (0 : Int) ≤ (m : Int) := by omega
            have hmb : m ≤ 500000 := Nat.le_of_succ_le (show m + 1 ≤ 500000 from Eq.subst (motive := fun z => z ≤ 500000) hm (Nat.le_trans hal.1 (Nat.le_trans hk hn)))
            have hwm : wrap64 (m : Int) = m := IntWalk.wrap64_in _ ⟨Int.le_trans (by decide) (Int.natCast_nonneg m), Int.le_trans (Int.ofNat_le.2 hmb) (by decide)⟩
            have hmc : m ≤ cap := Nat.le_of_succ_le (show m + 1 ≤ cap from Eq.subst (motive := fun z => z ≤ cap) hm hcap)
            have hms : (m : Int) < (m : Int) + 1 := Int.lt_succ _
            have HMB := Lib.hid hmb
            rw [hm]
            clear hS2 HS hg hf ha hx hJ hcap hm hal hat hmb hgb hgg hcl htk hOm hxs hA hE hT hEs hTs hAs hJe hls1 hlg hxc hnew hlt'
            go_wp2_with (go_at_call 204; refine (HGO.out _).mono ?_; rintro e' w' ⟨rfl, rfl⟩)
            refine wp_region_at (S := fun v => Below wr.heap.size wr v) (by kernel_rfl) ?_
            intro V0 hV0
            have h0 : Below wr.heap.size wr V0 := by rw [hV0]; exact (Below.refl _ _).drew
            clear hV0
            refine wpAnyH_take (i := 1) (v := .slice (some ⟨g, 0, none⟩) (m + 1) cap) rfl (by kernel_rfl) (by kernel_rfl) (by kernel_rfl) (fun _ _ _ h => h) (Or.inl ⟨by kernel_rfl, ?hy1⟩) h0 ?rest1
            case hy1 =>
              intro v hv
              clear hv
              go_simp
            (try simp only [Act.put, List.setIfInBounds_toArray, List.set_cons_zero, List.set_cons_succ])
            refine wpAnyH_take (i := 2) (v := .int .i64 m) rfl (by kernel_rfl) (by kernel_rfl) (by kernel_rfl) (fun _ _ _ h => h) (Or.inl ⟨by kernel_rfl, ?hy2⟩) h0 ?rest2
            case hy2 =>
              intro v hv
              clear hv
              go_simp
            (try simp only [Act.put, List.setIfInBounds_toArray, List.set_cons_zero, List.set_cons_succ])
            refine wpAnyH_take (i := 3) (v := .slice (some ⟨g, 0, none⟩) m cap) rfl (by kernel_rfl) (by kernel_rfl) (by kernel_rfl) (fun _ _ _ h => h) (Or.inl ⟨by kernel_rfl, ?hy3⟩) h0 ?rest3
            case hy3 =>
              intro v hv
              clear hv
              go_simp
            (try simp only [Act.put, List.setIfInBounds_toArray, List.set_cons_zero, List.set_cons_succ])
            refine wpAnyH_take (i := 5) (v := .slice (some ⟨g, 0, none⟩) (m + 1) cap) rfl (by kernel_rfl) (by kernel_rfl) (by kernel_rfl) (fun _ _ _ h => h) (Or.inl ⟨by kernel_rfl, ?hy4⟩) h0 ?rest4
            case hy4 =>
              intro v hv
              clear hv
              go_simp
            (try simp only [Act.put, List.setIfInBounds_toArray, List.set_cons_zero, List.set_cons_succ])
            refine wpAnyH_take (i := 6) (v := .int .i64 m) rfl (by kernel_rfl) (by kernel_rfl) (by kernel_rfl) (fun _ _ _ h => h) (Or.inl ⟨by kernel_rfl, ?hy5⟩) h0 ?rest5
            case hy5 =>
              intro v hv
              clear hv
              go_simp
            (try simp only [Act.put, List.setIfInBounds_toArray, List.set_cons_zero, List.set_cons_succ])
            refine wpAnyH_take (i := 7) (v := .pointer (some ⟨g, m, none⟩)) rfl (by kernel_rfl) (by kernel_rfl) (by kernel_rfl) (fun _ _ _ h => h) (Or.inl ⟨by kernel_rfl, ?hy6⟩) h0 ?rest6
            case hy6 =>
              intro v hv
              clear hv
              go_simp
            (try simp only [Act.put, List.setIfInBounds_toArray, List.set_cons_zero, List.set_cons_succ])
            refine wpAnyH_take (i := 8) (v := .string x) rfl (by kernel_rfl) (by kernel_rfl) (by kernel_rfl) (fun _ _ _ h => h) (Or.inl ⟨by kernel_rfl, ?hy7⟩) h0 ?rest7
            case hy7 =>
              intro v hv
              have q := (bcell hv _ _ HLG.out).trans HX.out
              clear hv
              go_simp
            (try simp only [Act.put, List.setIfInBounds_toArray, List.set_cons_zero, List.set_cons_succ])
            refine wpAnyH_take (i := 11) (v := .slice (some ⟨b, off, none⟩) l.length c) rfl (by kernel_rfl) (by kernel_rfl) (by kernel_rfl) (fun _ _ _ h => h) (Or.inl ⟨by kernel_rfl, ?hy8⟩) h0 ?rest8
            case hy8 =>
              intro v hv
              clear hv
              go_simp
            (try simp only [Act.put, List.setIfInBounds_toArray, List.set_cons_zero, List.set_cons_succ])
            refine wpAnyH_take (i := 12) (v := .int .i64 k) rfl (by kernel_rfl) (by kernel_rfl) (by kernel_rfl) (fun _ _ _ h => h) (Or.inl ⟨by kernel_rfl, ?hy9⟩) h0 ?rest9
            case hy9 =>
              intro v hv
              clear hv
              go_simp
            (try simp only [Act.put, List.setIfInBounds_toArray, List.set_cons_zero, List.set_cons_succ])
            refine wpAnyH_take (i := 13) (v := .pointer (some ⟨b, off + k, none⟩)) rfl (by kernel_rfl) (by kernel_rfl) (by kernel_rfl) (fun _ _ _ h => h) (Or.inl ⟨by kernel_rfl, ?hy10⟩) h0 ?rest10
            case hy10 =>
              intro v hv
              clear hv
              go_simp
            (try simp only [Act.put, List.setIfInBounds_toArray, List.set_cons_zero, List.set_cons_succ])
            refine wpAnyH_take (i := 14) (v := .string s) rfl (by kernel_rfl) (by kernel_rfl) (by kernel_rfl) (fun _ _ _ h => h) (Or.inl ⟨by kernel_rfl, ?hy11⟩) h0 ?rest11
            case hy11 =>
              intro v hv
              have q := (bcell hv _ _ HLB.out).trans h1
              clear hv
              go_simp
            (try simp only [Act.put, List.setIfInBounds_toArray, List.set_cons_zero, List.set_cons_succ])
            refine wpAnyH_ready (rs := [0]) (by kernel_rfl) (by simp) ?_
            refine AllReadyH.cons rfl (fun K hK => ?_) AllReadyH.nil
            go_simp
            have h1' := h0.alloc h0.size (.cells #[] 9)
            refine hK _ _ h1' (fun _ => ?_)
            clear hK K
            (try simp only [Act.put, List.setIfInBounds_toArray, List.set_cons_zero, List.set_cons_succ])
            refine wpAnyH_ready (rs := [4]) (by kernel_rfl) (by simp) ?_
            refine AllReadyH.cons rfl (fun K hK => ?_) AllReadyH.nil
            refine step_push_strs rfl _ _ rfl rfl (OwnS.empty V0) (acc.take m) g 0 m cap rfl HLT.out (HNEW.out _ (h0.alloc h0.size _)) (by have := HMB.out; simp; omega) (by simp) ?_
            intro p2 c2 V1 hown2 _ hb2
            have h2' : Below wr.heap.size wr V1 := h1'.trans (hb2.mono h0.size)
            have HS1 := Lib.hid (And.intro hown2 (hb2.size))
            clear hown2 hb2 h1'
            refine hK _ _ h2' (fun _ => ?_)
            clear hK K
            (try simp only [Act.put, List.setIfInBounds_toArray, List.set_cons_zero, List.set_cons_succ])
            refine wpAnyH_ready (rs := [9]) (by kernel_rfl) (by simp) ?_
            refine AllReadyH.cons rfl (fun K hK => ?_) AllReadyH.nil
            go_simp
            refine (HE.out _).mono ?_
            rintro e V2 ⟨rfl, rfl⟩
            refine hK _ _ h2' (fun _ => ?_)
            clear hK K
            (try simp only [Act.put, List.setIfInBounds_toArray, List.set_cons_zero, List.set_cons_succ])
            refine wpAnyH_take (i := 10) (v := .string A) rfl (by kernel_rfl) (by kernel_rfl) (by kernel_rfl) (fun _ _ _ h => h) (Or.inl ⟨by kernel_rfl, ?hy12⟩) h2' ?rest12
            case hy12 =>
              intro v hv
              have q := hadd1 v
              clear hv
              go_simp
            (try simp only [Act.put, List.setIfInBounds_toArray, List.set_cons_zero, List.set_cons_succ])
            refine wpAnyH_ready (rs := [15]) (by kernel_rfl) (by simp) ?_
            refine AllReadyH.cons rfl (fun K hK => ?_) AllReadyH.nil
            go_simp
            refine (HTR.out _).mono ?_
            rintro e V2 ⟨rfl, rfl⟩
            refine hK _ _ h2' (fun _ => ?_)
            clear hK K
            (try simp only [Act.put, List.setIfInBounds_toArray, List.set_cons_zero, List.set_cons_succ])
            refine wpAnyH_take (i := 16) (v := .string J) rfl (by kernel_rfl) (by kernel_rfl) (by kernel_rfl) (fun _ _ _ h => h) (Or.inl ⟨by kernel_rfl, ?hy13⟩) h2' ?rest13
            case hy13 =>
              intro v hv
              have q := hadd2 v
              clear hv
              go_simp
            (try simp only [Act.put, List.setIfInBounds_toArray, List.set_cons_zero, List.set_cons_succ])
            refine wpAnyH_ready (rs := [17]) (by kernel_rfl) (by simp) ?_
            refine AllReadyH.cons rfl (fun K hK => ?_) AllReadyH.nil
            go_simp
            have h3' := h2'.alloc h2'.size (.cells #[.string J] 9)
            refine hK _ _ h3' (fun _ => ?_)
            clear hK K
            (try simp only [Act.put, List.setIfInBounds_toArray, List.set_cons_zero, List.set_cons_succ])
            refine wpAnyH_ready (rs := [18]) (by kernel_rfl) (by simp) ?_
            refine AllReadyH.cons rfl (fun K hK => ?_) AllReadyH.nil
            have HNJ := Lib.hid (fun j (hj : j < [J].length) => news_one V1 J j hj)
            refine step_push_strs rfl _ _ rfl (by simp [Act.eval]) (HS1.out.1.alloc _) [J] V1.heap.size 0 1 1 rfl rfl HNJ.out (by have := HMB.out; have := HLT.out; simp at this ⊢; omega) (by have := HS1.out.2; simp at this ⊢; omega) ?_
            intro p3 c3 V3 hown3 _ hb3
            have h4' : Below wr.heap.size wr V3 := h3'.trans (hb3.mono h0.size)
            have HF := Lib.hid (hown3.lower h0.size)
            clear hown3 hb3 h3'
            refine hK _ _ h4' (fun _ => ?_)
            clear hK K
            (try simp only [Act.put, List.setIfInBounds_toArray, List.set_cons_zero, List.set_cons_succ])
            refine wpAnyH_ready (rs := [19]) (by kernel_rfl) (by simp) ?_
            refine AllReadyH.cons rfl (fun K hK => ?_) AllReadyH.nil
            go_simp
            refine hK _ _ h4' (fun _ => ?_)
            clear hK K
            (try simp only [Act.put, List.setIfInBounds_toArray, List.set_cons_zero, List.set_cons_succ])
            refine wpAnyH_done (by kernel_rfl) ?_ _
            go_wp2_with fail
            go_roundw
            case rel =>
              refine ⟨k + 1, acc.take m ++ [J], by omega, by go_num, HS2.out, ?_, HB.out.trans (h4'.mono HB.out.size)⟩
              have hf := HF.out
              simp only [List.nil_append, List.length_take] at hf
              exact hf.lower HB.out.size
            case measure => simp [intOf]; omega
    · have hk1 : decide ((k : Int) < (l.length : Int)) = false := decide_eq_false (by omega)
      have hS2 : F l = some acc := by have := HA.out; rwa [List.take_of_length_le (by omega)] at this
      have HS2 := Lib.hid hS2
      clear hS2
      go_wp2_with fail
      go_ret2
      refine ⟨u6, ?_, ?_, HB.out⟩
      · rw [HS2.out]; rfl
      · rw [HS2.out]; exact HO.out
end Go.Proofs.YtmoofcmmpemdcaaGreatDoor

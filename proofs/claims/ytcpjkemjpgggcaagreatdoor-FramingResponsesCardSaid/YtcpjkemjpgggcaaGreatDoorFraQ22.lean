/- Texts packed for one claim, 22 of 34: Cod RfH. -/
import Derived.Test.YtcpjkemjpgggcaaGreatDoorFraQ15
import Derived.Test.YtcpjkemjpgggcaaGreatDoorFraQ19
set_option linter.unusedSimpArgs false
set_option linter.unusedVariables false
-- Cod
namespace Go.Proofs.YtcpjkemjpgggcaaGreatDoor
open Go.RowKit
theorem pcs_size : ∀ (l : List UInt8) (x : Sc) (a : List UInt8), ∀ p ∈ pcs x a l, p.length ≤ a.length + l.length
  | [], x, a, p, hp => by
    rw [pcs] at hp
    rw [List.mem_singleton.1 hp]
    simp
  | c :: l, x, a, p, hp => by
    rw [pcs] at hp
    split at hp
    · rcases List.mem_cons.1 hp with e | h
      · rw [e]; simp
      · have := pcs_size l x [] p h
        simp at this ⊢
        omega
    · have := pcs_size l _ _ p hp
      simp at this ⊢
      omega
theorem split_size (s : ByteArray) : ∀ e ∈ (splitP s).getD [], e.size ≤ s.size := by
  unfold splitP
  split
  · intro e he
    have he : e ∈ someL (pcs scz [] s.data.toList) := he
    unfold someL at he
    obtain ⟨h1, _⟩ := List.mem_filter.1 he
    obtain ⟨p, hp, rfl⟩ := List.mem_map.1 h1
    have h2 := pcs_size _ _ _ p hp
    have h3 := trimL_length p
    show (trimL p).toArray.size ≤ _
    simp at h2 ⊢
    omega
  · intro e he
    cases he
theorem pcs_len : ∀ (l : List UInt8) (x : Sc) (a : List UInt8), (pcs x a l).length ≤ l.length + 1
  | [], x, a => by rw [pcs]; simp
  | c :: l, x, a => by
    rw [pcs]
    split
    · have := pcs_len l x []
      simp
      omega
    · have := pcs_len l (x.see c.toNat) (a ++ [c])
      simp
      omega
theorem split_len (s : ByteArray) : ((splitP s).getD []).length ≤ s.size + 1 := by
  unfold splitP
  split
  · have h1 := someL_len (pcs scz [] s.data.toList)
    have h2 := pcs_len s.data.toList scz []
    have hl : s.data.toList.length = s.size := by simp
    show (someL _).length ≤ _
    omega
  · exact Nat.zero_le _
theorem codP_eq (fs : List Fd) : codP fs = if allB fs teB = [] then (false, 0) else if (splitP (joinL (allB fs teB))).isSome = false then (false, 14) else codQ ((splitP (joinL (allB fs teB))).getD []) := by
  unfold codP
  split
  · rfl
  · cases splitP (joinL (allB fs teB)) with
    | none => rfl
    | some l => rw [if_neg (by simp)]; exact (cod_law l).symm
theorem cntC_take (l : List ByteArray) (k : Nat) (h : k < l.length) : cntC (l.take (k + 1)) = cntC (l.take k) + if wCh l[k] = true then 1 else 0 := by
  rw [List.take_succ_eq_append_getElem h, cntC_append]
  congr 1
  unfold cntC
  cases hw : wCh l[k] <;> simp [hw]
theorem cntC_le (l : List ByteArray) : cntC l ≤ l.length := List.length_filter_le _ _
theorem chk_iff (s : ByteArray) : (s.toList == chkB.toList) = decide (s = chkB) := by
  rw [Bool.eq_iff_iff, beq_iff_eq, decide_eq_true_eq]
  constructor
  · intro h
    rw [ByteArray.toList_eq, ByteArray.toList_eq] at h
    exact ext_list h
  · intro h
    rw [h]
set_option maxRecDepth 100000 in
set_option maxHeartbeats 8000000 in
theorem chunked_any (fs : List Fd) (f : Value) (w : World) (h : Flds w f fs) (hl : fs.length ≤ 100000) (hs : ∀ g ∈ fs, g.1.size ≤ 1000000) (hs2 : ∀ g ∈ fs, g.2.size ≤ 1000000) (hj : (joinL (allB fs teB)).size ≤ 900000) :
    Calls Tryz.prog 79 #[f] w fun e w' => e = .returned (.tuple #[.bool (codP fs).1, .int .i64 (codP fs).2]) ∧ Below w.heap.size w w' := by
  have HCB := Lib.hid (hcomb_any fs f teB w h hl hs hs2 (by decide))
  have hcp := codP_eq fs
  obtain ⟨A, hA⟩ : ∃ A, A = allB fs teB := ⟨_, rfl⟩
  rw [← hA] at HCB hcp hj
  obtain ⟨J, hJ⟩ : ∃ J, J = joinL A := ⟨_, rfl⟩
  rw [← hJ] at HCB hcp hj
  obtain ⟨CP, hCP⟩ : ∃ C, C = codP fs := ⟨_, rfl⟩
  rw [← hCP] at hcp ⊢
  have HSP := Lib.hid (fun W => split_any J (by omega) W)
  have hsz := split_size J
  have hsl := split_len J
  obtain ⟨S, hS⟩ : ∃ S, S = splitP J := ⟨_, rfl⟩
  rw [← hS] at HSP hcp hsz hsl
  obtain ⟨l, hll⟩ : ∃ l, l = S.getD [] := ⟨_, rfl⟩
  rw [← hll] at HSP hcp hsz hsl
  have HSZ : Hid (∀ e ∈ l, e.size ≤ 1000000) := fun e he => by have := hsz e he; omega
  have HLL : Hid (l.length ≤ 1000000) := by show _ ≤ _; omega
  have hl0 : S.isSome = false → l = [] := fun h => by
    cases S with
    | none => exact hll
    | some _ => cases h
  have hcp2 : CP = if A.isEmpty = true then (false, 0) else if S.isSome = false then (false, 14) else codQ l := by
    rw [hcp]
    cases A <;> rfl
  obtain ⟨so, hso⟩ : ∃ b, b = S.isSome := ⟨_, rfl⟩
  rw [← hso] at HSP hl0 hcp2
  have HCP := Lib.hid hcp2
  have HL0 := Lib.hid hl0
  clear h hl hs hs2 hj hcp hcp2 hA hJ hCP hS hll hl0 hso hsz hsl
  obtain ⟨n, hn⟩ : ∃ n, n = l.length := ⟨_, rfl⟩
  have HN := Lib.hid hn
  obtain ⟨ae, hae⟩ : ∃ b, b = A.isEmpty := ⟨_, rfl⟩
  rw [← hae] at HCB HCP
  have HWD := Lib.hid (fun (e : ByteArray) (he : e.size ≤ 1000000) (W : World) => word_any e he W)
  clear hn hae
  unfold teB at HCB
  go_enter Tryz.func79, Tryz.ntmps79
  generalize hck : (⟨#[99, 104, 117, 110, 107, 101, 100]⟩ : ByteArray) = CK
  have HCK : Hid (CK = chkB) := hck.symm
  clear hck
  cases ae with
  | true =>
    have HE : Hid (CP = (false, 0)) := by show _ = _; rw [HCP.out, if_pos rfl]
    go_wp2_with (go_at_call 110; refine HCB.out.mono ?_; rintro e1 w1 ⟨rfl, hb⟩; have HB := Lib.hid hb; clear hb)
    go_ret2
    rw [HE.out]
    exact ⟨rfl, HB.out⟩
  | false =>
    have HE : Hid (CP = if so = false then (false, 14) else codQ l) := by show _ = _; rw [HCP.out, if_neg (by decide)]
    clear HCP
    go_wp2_with (first
      | (go_at_call 110; refine HCB.out.mono ?_; rintro e1 w1 ⟨rfl, hb⟩; have HB := Lib.hid hb; clear hb)
      | (go_at_call 111; refine (HSP.out _).mono ?_; rintro e2 w2 ⟨v2, rfl, ho2, hb2⟩; obtain ⟨p2, c2, rfl⟩ := ho2.shape; rw [← HN.out] at ho2 ⊢; have HO := Lib.hid ho2; have HB2 := Lib.hid (HB.out.trans (hb2.mono HB.out.size)); clear ho2 hb2))
    go_loopw [7, 8, 31] (fun u7 u8 i wr => ∃ k : Nat, k ≤ n ∧ i = .int .i64 k ∧ u7 = .bool (so && (l.take k).all wOk) ∧ u8 = .int .i64 ((cntC (l.take k) : Nat) : Int) ∧ Below w2.heap.size w2 wr) (fun _ _ i _ => n - (intOf i).toNat)
    case atStart => exact ⟨0, Nat.zero_le _, rfl, by simp, rfl, Below.refl _ _⟩
    case round =>
      obtain ⟨k, hk, rfl, hu7, rfl, hb⟩ := hrel
      have HBB := Lib.hid hb
      have HOW := Lib.hid (HO.out.call hb)
      have HBW : Hid (Below w.heap.size w wr) := HB2.out.trans (hb.mono HB2.out.size)
      obtain ⟨b7, hb7⟩ : ∃ b, b = (so && (l.take k).all wOk) := ⟨_, rfl⟩
      rw [← hb7] at hu7
      subst hu7
      have HB7 := Lib.hid hb7
      obtain ⟨m, hm⟩ : ∃ m, m = cntC (l.take k) := ⟨_, rfl⟩
      rw [← hm]
      have HM := Lib.hid hm
      have hmk : m ≤ k := by rw [hm]; have := cntC_le (l.take k); rw [List.length_take] at this; omega
      have hmi : (m : Int) ≤ 1000000 := by have := HLL.out; have := HN.out; omega
      clear hb hb7 hm
      by_cases hlt : k < n
      · have hk1 : decide ((k : Int) < (n : Int)) = true := decide_eq_true (by omega)
        have hkl : k < l.length := by rw [← HN.out]; exact hlt
        obtain ⟨pp, cc, hv, hc⟩ := HOW.out.strs
        obtain ⟨b, off, hp, hce⟩ := hc k hkl
        injection hv with e1 e2 e3
        rw [← e1] at hp
        subst hp
        obtain ⟨x, hx⟩ : ∃ x, x = l[k] := ⟨_, rfl⟩
        rw [← hx] at hce
        have HXS : Hid (x.size ≤ 1000000) := HSZ.out x (by rw [hx]; exact List.getElem_mem hkl)
        have HW1 := Lib.hid (HWD.out x HXS.out wr)
        have hwc : wCh x = decide ((wordP x).1 = chkB) := rfl
        obtain ⟨W1, hW1⟩ : ∃ W, W = (wordP x).1 := ⟨_, rfl⟩
        rw [← hW1] at HW1 hwc
        have hcmp := chk_iff W1
        rw [← hwc, ← HCK.out] at hcmp
        obtain ⟨wc, hwcc⟩ : ∃ b, b = wCh x := ⟨_, rfl⟩
        rw [← hwcc] at hcmp
        obtain ⟨wo, hwo⟩ : ∃ b, b = wOk x := ⟨_, rfl⟩
        rw [← hwo] at HW1
        obtain ⟨wd, hwd⟩ : ∃ b, b = decide (0 < (wordP x).2.1) := ⟨_, rfl⟩
        rw [← hwd] at HW1
        have HT : Hid (cntC (l.take (k + 1)) = m + if wc = true then 1 else 0) := by show _ = _; rw [cntC_take l k hkl, ← HM.out, ← hx, hwcc]
        have HA7 : Hid ((so && (l.take (k + 1)).all wOk) = (b7 && wo)) := by
          show _ = _
          rw [List.take_succ_eq_append_getElem hkl, List.all_append, HB7.out, ← hx, hwo]
          cases so <;> simp
        have hki : (k : Int) ≤ 1000000 := by have := HLL.out; omega
        clear hc e1 e2 e3 hx hwc hW1 hwcc hwo hwd
        cases b7 <;> cases wc
        all_goals
          go_wp2_with (go_at_call 122; refine HW1.out.mono ?_; rintro e6 w6 ⟨rfl, hb6⟩; have HB6 := Lib.hid (HBB.out.trans (hb6.mono HBB.out.size)); clear hb6)
          go_roundw
          case rel => exact ⟨k + 1, hlt, by go_num, by rw [HA7.out]; rfl, by rw [HT.out]; first | rfl | simp, HB6.out⟩
          case measure => simp [intOf]; omega
      · have hk1 : decide ((k : Int) < (n : Int)) = false := decide_eq_false (by omega)
        have hkn : k = n := by omega
        have HTK : Hid (l.take k = l) := by show _ = _; rw [hkn, HN.out, List.take_length]
        have HM2 : Hid (m = cntC l) := by show _ = _; rw [HM.out, HTK.out]
        have HB72 : Hid (b7 = (so && l.all wOk)) := by show _ = _; rw [HB7.out, HTK.out]
        clear hkn
        by_cases hbad : b7 = true ∧ m = 1
        · obtain ⟨rfl, rfl⟩ := hbad
          obtain ⟨rfl, hall⟩ : so = true ∧ l.all wOk = true := by
            have h := HB72.out
            cases so
            · cases h
            · exact ⟨rfl, h.symm⟩
          obtain ⟨j, hj⟩ : ∃ j, n = j + 1 := ⟨n - 1, by
            have h1 := HM2.out
            have h2 := cntC_le l
            have h3 := HN.out
            omega⟩
          have hjl : j < l.length := by rw [← HN.out]; omega
          obtain ⟨pp, cc, hv, hc⟩ := HOW.out.strs
          obtain ⟨b, off, hp, hce⟩ := hc j hjl
          injection hv with e1 e2 e3
          rw [← e1] at hp
          subst hp
          obtain ⟨x, hx⟩ : ∃ x, x = l[j] := ⟨_, rfl⟩
          rw [← hx] at hce
          have HXS : Hid (x.size ≤ 1000000) := HSZ.out x (by rw [hx]; exact List.getElem_mem hjl)
          have HW1 := Lib.hid (HWD.out x HXS.out wr)
          have hlast : l.getLast? = some x := by
            rw [List.getLast?_eq_getElem?, show l.length - 1 = j by have := HN.out; omega, List.getElem?_eq_getElem hjl, hx]
          have HQ : Hid (CP = if wCh x = false ∨ 0 < (wordP x).2.1 then (false, 14) else if 1 < n then (false, 15) else (true, 0)) := by
            show _ = _
            rw [HE.out, if_neg (by decide)]
            unfold codQ
            rw [if_neg (by rw [hall, ← HM2.out]; simp), hlast, HN.out]
          have hwc : wCh x = decide ((wordP x).1 = chkB) := rfl
          obtain ⟨W1, hW1⟩ : ∃ W, W = (wordP x).1 := ⟨_, rfl⟩
          rw [← hW1] at HW1 hwc
          have hcmp := chk_iff W1
          rw [← hwc, ← HCK.out] at hcmp
          obtain ⟨wc, hwcc⟩ : ∃ b, b = wCh x := ⟨_, rfl⟩
          rw [← hwcc] at hcmp HQ
          obtain ⟨wo, hwo⟩ : ∃ b, b = wOk x := ⟨_, rfl⟩
          rw [← hwo] at HW1
          obtain ⟨wd, hwd⟩ : ∃ b, b = decide (0 < (wordP x).2.1) := ⟨_, rfl⟩
          rw [← hwd] at HW1
          have HQ2 : Hid (CP = if wc = false ∨ wd = true then (false, 14) else if 1 < n then (false, 15) else (true, 0)) := by
            show _ = _
            rw [HQ.out, hwd]
            simp only [decide_eq_true_eq]
          have hji : (j : Int) ≤ 1000000 := by have := HLL.out; omega
          have hn1 : ((n : Nat) : Int) - 1 = (j : Int) := by omega
          have hn2 : wrap64 ((n : Int) - 1) = (j : Int) := by rw [hn1]; exact IntWalk.wrap64_in (j : Int) ⟨by omega, by omega⟩
          have hjn : (j : Int) < (n : Int) := by omega
          have hj0 : (0 : Int) ≤ (j : Int) := by omega
          have hcmp2 : (W1.toList != CK.toList) = !wc := by rw [bne, hcmp]
          have hw1 : wrap64 ((j : Int) + 1 - 1) = (j : Int) := by rw [show (j : Int) + 1 - 1 = (j : Int) by omega]; exact IntWalk.wrap64_in (j : Int) ⟨by omega, by omega⟩
          clear hc e1 e2 e3 hx hwc hW1 hwcc hwo hwd hlast HQ hall
          by_cases hn15 : 1 < n
          · have d1 : decide ((1 : Int) < (n : Int)) = true := decide_eq_true (by omega)
            have d2 : decide (1 < n) = true := decide_eq_true hn15
            cases wc <;> cases wd
            all_goals
              go_wp2_with (go_at_call 122; refine HW1.out.mono ?_; rintro e6 w6 ⟨rfl, hb6⟩; have HB6 := Lib.hid (HBW.out.trans (hb6.mono HBW.out.size)); clear hb6)
              go_ret2
              rw [HQ2.out]
              simp only [Bool.false_eq_true, or_false, or_true, true_or, false_or, if_true, if_false, hn15, reduceCtorEq]
              exact ⟨rfl, HB6.out⟩
          · have d1 : decide ((1 : Int) < (n : Int)) = false := decide_eq_false (by omega)
            have d2 : decide (1 < n) = false := decide_eq_false hn15
            cases wc <;> cases wd
            all_goals
              go_wp2_with (go_at_call 122; refine HW1.out.mono ?_; rintro e6 w6 ⟨rfl, hb6⟩; have HB6 := Lib.hid (HBW.out.trans (hb6.mono HBW.out.size)); clear hb6)
              go_ret2
              rw [HQ2.out]
              simp only [Bool.false_eq_true, or_false, or_true, true_or, false_or, if_true, if_false, hn15, reduceCtorEq]
              exact ⟨rfl, HB6.out⟩
        · have HQ : Hid (CP = (false, 14)) := by
            show _ = _
            rw [HE.out]
            cases hso : so with
            | false => rw [if_pos rfl]
            | true =>
              rw [if_neg (by decide)]
              unfold codQ
              rw [if_pos]
              rw [hso] at HB72
              by_cases h7 : b7 = true
              · right
                intro h
                exact hbad ⟨h7, by rw [HM2.out]; exact h⟩
              · left
                have h := HB72.out
                cases b7
                · exact h.symm
                · exact absurd rfl h7
          cases b7 with
          | false =>
            go_wp2_with fail
            go_ret2
            rw [HQ.out]
            exact ⟨rfl, HBW.out⟩
          | true =>
            have hm1 : ((m : Int) != 1) = true := by rw [bne_iff_ne]; intro h; exact hbad ⟨rfl, by omega⟩
            have hm2 : (m != 1) = true := by rw [bne_iff_ne]; intro h; exact hbad ⟨rfl, h⟩
            have hm3 : (m == 1) = false := by rw [beq_eq_false_iff_ne]; intro h; exact hbad ⟨rfl, h⟩
            clear hbad
            go_wp2_with fail
            go_ret2
            rw [HQ.out]
            exact ⟨rfl, HBW.out⟩
end Go.Proofs.YtcpjkemjpgggcaaGreatDoor
-- RfH
namespace Go.Proofs.YtcpjkemjpgggcaaGreatDoor
open Go.RowKit
def strSz (v : Value) : Nat := match v with
  | .string s => s.size
  | _ => 0
theorem OwnP.start (w : World) (B : Nat) : OwnP w B (.slice none 0 0) [] := World.ownsRow_nil _ _ _ _
theorem OwnP.empty (w : World) : OwnP (w.alloc (.cells #[] 181)) w.heap.size (.slice (some ⟨w.heap.size, 0, none⟩) 0 0) [] := World.ownsRow_lit w #[] 0 (Nat.le_refl _) (by decide) rfl
theorem OwnP.call {w w1 : World} {B : Nat} {v : Value} {l : List Fd} (h : OwnP w B v l) (hb : Below w.heap.size w w1) : OwnP w1 B v l := own_touch h (Touch.of_below (P := fun _ => False) hb) (fun _ _ => id)
theorem OwnP.alloc {w : World} {B : Nat} {v : Value} {l : List Fd} (h : OwnP w B v l) (o : Obj) : OwnP (w.alloc o) B v l := own_touch h ((Touch.refl (fun _ => False) w).alloc o) (fun _ _ => id)
theorem parsF_go {l : List UInt8} (hl : l ≠ []) {n : Nat} (h : parF l = some n) : parsF l = (parsF (l.drop n)).map (· + 1) := by rw [parsF_step hl, h]
theorem parsF_no {l : List UInt8} (hl : l ≠ []) (h : parF l = none) : parsF l = none := by rw [parsF_step hl, h]
set_option maxRecDepth 100000 in
set_option maxHeartbeats 4000000 in
theorem rparse08_any (s : ByteArray) (hs : s.size ≤ 900000) (w : World) :
    Calls Tryz.prog 129 #[.string s] w fun e w' => ∃ p c, e = .returned (.tuple #[.string (wordP s).1, .slice p (wordP s).2.1 c, .int .i64 (wordP s).2.2]) ∧ Below w.heap.size w w' := by
  have hsl : s.data.toList.length = s.size := by simp
  obtain ⟨V, hV⟩ : ∃ V, V = wordP s := ⟨_, rfl⟩
  rw [← hV]
  unfold wordP at hV
  cases hE : s.toList.isEmpty with
  | true =>
    have hz : s.size = 0 := by
      rw [isEmpty_list, List.isEmpty_iff] at hE
      have := congrArg List.length hE
      simpa using this
    rw [if_pos hz] at hV
    have HV := Lib.hid hV
    clear hV hsl hz
    go_enter Tryz.func129, Tryz.ntmps129
    go_wp2_with fail
    go_ret3
    rw [HV.out]
    exact ⟨_, _, rfl, Below.refl _ _⟩
  | false =>
    have hz : s.size ≠ 0 := by
      intro h
      have : s.data.toList = [] := List.eq_nil_of_length_eq_zero (by omega)
      rw [isEmpty_list, this] at hE
      cases hE
    rw [if_neg hz] at hV
    have HT := Lib.hid (rtoken04_any s (by omega))
    have htl := tokN_le s.data.toList
    obtain ⟨t, hte⟩ : ∃ t, t = tokN s.data.toList := ⟨_, rfl⟩
    rw [← hte] at hV HT htl
    rw [hsl] at htl
    obtain ⟨NM, hNM, hzN, hsl1⟩ := cut_to s t htl
    have hNMe : NM = s.extract 0 t := by
      apply ext_list
      rw [hNM, Lib.extract_data, List.drop_zero, Nat.sub_zero]
    rw [← hNMe] at hV
    have HLW := Lib.hid (rlower_any NM (by omega))
    obtain ⟨nm, hnm⟩ : ∃ x, x = lowB NM := ⟨_, rfl⟩
    rw [← hnm] at hV HLW
    by_cases ht0 : t = 0
    · rw [if_pos ht0] at hV
      have HV := Lib.hid hV
      have e0 : ((t : Int) == 0) = true := by rw [beq_iff_eq]; omega
      clear hV hsl hz hte htl hNM hzN hNMe hnm ht0
      go_enter Tryz.func129, Tryz.ntmps129
      go_wp2_with fail
      refine (HT.out _).mono ?_
      rintro x1 w1 ⟨rfl, rfl⟩
      go_wp2_with fail
      refine (HLW.out _).mono ?_
      rintro x2 w2 ⟨rfl, hb⟩
      have HB := Lib.hid (hb.alloc hb.size (.cells #[] 181))
      clear hb
      go_wp2_with fail
      go_ret3
      rw [HV.out]
      exact ⟨_, _, rfl, HB.out⟩
    · rw [if_neg ht0] at hV
      have e0 : ((t : Int) == 0) = false := by rw [beq_eq_false_iff_ne]; omega
      obtain ⟨S0, hS0, hz0, hsl2⟩ := cut_from s t htl
      rw [← hS0] at hV
      obtain ⟨R, hR⟩ : ∃ R, R = parsF S0.data.toList := ⟨_, rfl⟩
      rw [← hR] at hV
      have HVV := Lib.hid hV
      have HR0 : Hid (R = (parsF S0.data.toList).map (· + 0)) := by show R = _; rw [hR]; simp
      have hs0 : S0.size ≤ 900000 := by omega
      clear hV hsl hz hte htl hNM hzN hNMe hnm ht0 hS0 hz0 hR
      go_enter Tryz.func129, Tryz.ntmps129
      go_wp2_with fail
      refine (HT.out _).mono ?_
      rintro x1 w1 ⟨rfl, rfl⟩
      go_wp2_with fail
      refine (HLW.out _).mono ?_
      rintro x2 w2 ⟨rfl, hb⟩
      have HB := Lib.hid (hb.alloc hb.size (.cells #[] 181))
      have HO := Lib.hid (OwnP.empty w2)
      have HZ2 := Lib.hid hb.size
      clear hb
      go_wp2_with fail
      go_loopw [0, 7] (fun u0 u7 wr => ∃ (S : ByteArray) (k : Nat) (L : List Fd), u0 = .string S ∧ S.size + k ≤ 900000 ∧ OwnP wr w2.heap.size u7 L ∧ L.length = k ∧ R = (parsF S.data.toList).map (· + k) ∧ Below w.heap.size w wr ∧ w2.heap.size ≤ wr.heap.size) (fun u0 _ _ => strSz u0)
      case atStart => exact ⟨S0, 0, [], rfl, by omega, HO.out, rfl, HR0.out, HB.out, by simp⟩
      case round =>
        obtain ⟨S, k, L, rfl, hSk, ho, hL, hr, hb, hz2⟩ := hrel
        have HOR := Lib.hid ho
        have HBR := Lib.hid hb
        have HRR := Lib.hid hr
        have HZR := Lib.hid hz2
        have HLK := Lib.hid hL
        clear ho hb hr hz2 hL
        cases hSE : S.toList.isEmpty with
        | true =>
          have hnil : S.data.toList = [] := by rw [isEmpty_list, List.isEmpty_iff] at hSE; exact hSE
          have HV : Hid (V = (nm, k, 0)) := by
            show V = _
            have h := HRR.out
            rw [hnil, parsF_nil] at h
            rw [HVV.out, h]
            simp
          obtain ⟨p7, c7, hv7⟩ := own_slice HOR.out
          rw [HLK.out] at hv7
          subst hv7
          clear hnil
          go_wp2_with fail
          go_ret3
          rw [HV.out]
          exact ⟨_, _, rfl, HBR.out⟩
        | false =>
          have hne : S.data.toList ≠ [] := by
            intro e
            rw [isEmpty_list, e] at hSE
            cases hSE
          have HPA := Lib.hid (rparam_any S (by omega) wr)
          have hlt : k ≤ 1000000 := by omega
          cases hpf : parF S.data.toList with
          | none =>
            have HV : Hid (V = (⟨#[]⟩, 0, 3)) := by
              show V = _
              have h := HRR.out
              rw [parsF_no hne hpf] at h
              rw [HVV.out, h]
              rfl
            have HPA2 : Hid (Calls Tryz.prog 171 #[.string S] wr fun e w' => ∃ n v r : ByteArray, e = .returned (.tuple #[.agg #[.string n, .string v], .string r, .bool false]) ∧ Below wr.heap.size wr w') := HPA.out.mono fun e w' ⟨n, v, r, h1, _, h3⟩ => ⟨n, v, r, by rw [h1, hpf]; rfl, h3⟩
            clear hne hpf HPA
            go_wp2_with (go_at_call 171; refine HPA2.out.mono ?_)
            rintro x3 w3 ⟨n3, v3, r3, rfl, hb3⟩
            have HB3 := Lib.hid ((HBR.out.trans (hb3.mono HBR.out.size)).alloc (Nat.le_trans HBR.out.size hb3.size) (.cells #[.string n3, .string v3] 181))
            clear hb3
            go_wp2_with fail
            go_ret3
            rw [HV.out]
            exact ⟨_, _, rfl, HB3.out⟩
          | some n =>
            have hn := parF_le hpf
            have hSl : S.data.toList.length = S.size := by simp
            have HPA2 : Hid (Calls Tryz.prog 171 #[.string S] wr fun e w' => ∃ n' v r : ByteArray, e = .returned (.tuple #[.agg #[.string n', .string v], .string r, .bool true]) ∧ (r.data.toList = S.data.toList.drop n) ∧ Below wr.heap.size wr w') := HPA.out.mono fun e w' ⟨n', v, r, h1, h2, h3⟩ => ⟨n', v, r, by rw [h1, hpf]; rfl, h2 n hpf, h3⟩
            have HG := Lib.hid (parsF_go hne hpf)
            have hn1 := hn.1
            have hn2 : n ≤ S.size := by omega
            clear hne hpf HPA hn hSl
            go_wp2_with (go_at_call 171; refine HPA2.out.mono ?_)
            rintro x3 w3 ⟨n3, v3, r3, rfl, hr3, hb3⟩
            have HB3 := Lib.hid ((HBR.out.trans (hb3.mono HBR.out.size)).alloc (Nat.le_trans HBR.out.size hb3.size) (.cells #[.string n3, .string v3] 181))
            have HO3 := Lib.hid (OwnP.alloc (OwnP.call HOR.out hb3) (.cells #[.string n3, .string v3] 181))
            have HZ3 : Hid (w2.heap.size ≤ (w3.alloc (.cells #[.string n3, .string v3] 181)).heap.size) := by show _ ≤ _; have h1 := HZR.out; have h2 := hb3.size; simp; omega
            have HLL : Hid (L.length ≤ 1000000) := by show _ ≤ _; rw [HLK.out]; exact hlt
            have HR3 := Lib.hid hr3
            have HRZ : Hid (r3.size = S.size - n) := by
              show _ = _
              have := congrArg List.length hr3
              simpa using this
            clear hr3 hb3
            go_wp2_with (at_builtin; refine wpList_push_par rfl _ _ rfl rfl HO3.out n3 v3 _ (by simp) rfl HLL.out HZ3.out ?_; intro p4 c4 w4 ho4 ht4; have HO4 := Lib.hid ho4; have HT4 := Lib.hid ht4; clear ho4 ht4)
            go_roundw
            case rel =>
              refine ⟨r3, k + 1, L ++ [(n3, v3)], rfl, by have := HRZ.out; omega, ?_, by rw [List.length_append, HLK.out]; rfl, ?_, ?_, Nat.le_trans HZ3.out HT4.out.size⟩
              · have h := HO4.out
                exact h
              · have h := HRR.out
                rw [HG.out, Option.map_map] at h
                rw [h, HR3.out]
                congr 1
                funext x
                simp
                omega
              · refine HB3.out.trans (HT4.out.below (fun j hj e => ?_) HB3.out.size)
                have h1 := (ownP_blk HO3.out j e).1
                have h2 := HZ2.out
                omega
            case measure =>
              have h := HRZ.out
              show r3.size < S.size
              omega
theorem wBad_eq (last : Bool) (e : ByteArray) : wBad last e = (((wordP e).2.2 != 0) || ((last != wCh e) || (last && decide (0 < (wordP e).2.1)))) := rfl
theorem getLast_at {l : List ByteArray} (h : 0 < l.length) : l.getLast?.getD ⟨#[]⟩ = l[l.length - 1] := by
  rw [List.getLast?_eq_getElem?, List.getElem?_eq_getElem (by omega)]
  rfl
theorem codR_bad {l : List ByteArray} {k : Nat} (hk : k < l.length) (h : wBad (decide (k + 1 = l.length)) l[k] = true) : codR l = (false, 14) := by
  unfold codR
  rw [if_neg (fun e => by rw [e] at hk; exact absurd hk (Nat.not_lt_zero _))]
  rw [if_pos]
  rw [Bool.or_eq_true]
  by_cases e : k + 1 = l.length
  · right
    rw [decide_eq_true e] at h
    rw [getLast_at (by omega)]
    have e2 : l[l.length - 1]'(by omega) = l[k] := by congr 1; omega
    rw [e2]
    exact h
  · left
    rw [decide_eq_false e] at h
    rw [List.any_eq_true]
    refine ⟨l[k], ?_, h⟩
    rw [List.mem_iff_getElem?]
    exact ⟨k, by rw [List.getElem?_dropLast, if_pos (by omega), List.getElem?_eq_getElem hk]⟩
theorem codR_good {l : List ByteArray} (h0 : 0 < l.length) (h : ∀ j (hj : j < l.length), wBad (decide (j + 1 = l.length)) l[j] = false) : codR l = if 1 < l.length then (false, 15) else (true, 0) := by
  unfold codR
  rw [if_neg (fun e => by rw [e] at h0; exact absurd h0 (Nat.not_lt_zero _))]
  rw [if_neg]
  rw [Bool.or_eq_true]
  rintro (hb | hb)
  · rw [List.any_eq_true] at hb
    obtain ⟨x, hx, hbx⟩ := hb
    rw [List.mem_iff_getElem?] at hx
    obtain ⟨j, hj⟩ := hx
    rw [List.getElem?_dropLast] at hj
    split at hj
    · rename_i hlt
      have hj2 : j < l.length := by omega
      rw [List.getElem?_eq_getElem hj2] at hj
      have h1 := h j hj2
      rw [decide_eq_false (by omega)] at h1
      injection hj with hj
      rw [hj] at h1
      rw [h1] at hbx
      cases hbx
    · cases hj
  · rw [getLast_at h0] at hb
    have h1 := h (l.length - 1) (by omega)
    rw [decide_eq_true (by omega)] at h1
    rw [h1] at hb
    cases hb
set_option maxRecDepth 100000 in
set_option maxHeartbeats 8000000 in
theorem rchunked_any (fs : List Fd) (f : Value) (w : World) (h : Flds w f fs) (hl : fs.length ≤ 100000) (hs : ∀ g ∈ fs, g.1.size ≤ 1000000) (hs2 : ∀ g ∈ fs, g.2.size ≤ 1000000) (hj : (joinL (allB fs teB)).size ≤ 900000) :
    Calls Tryz.prog 85 #[f] w fun e w' => e = .returned (.tuple #[.bool (codP fs).1, .int .i64 (codP fs).2]) ∧ Below w.heap.size w w' := by
  have HC := Lib.hid (rcomb_any fs f teB w h hl hs hs2 (by decide))
  have hcp : codP fs = if allB fs teB = [] then (false, 0) else match splitP (joinL (allB fs teB)) with
    | none => (false, 14)
    | some l => codR l := rfl
  obtain ⟨J, hJ⟩ : ∃ J, J = joinL (allB fs teB) := ⟨_, rfl⟩
  obtain ⟨V, hV⟩ : ∃ V, V = codP fs := ⟨_, rfl⟩
  rw [← hV] at hcp ⊢
  rw [← hJ] at HC hj hcp
  have hae : (!(allB fs teB).isEmpty) = false ↔ allB fs teB = [] := by simp
  obtain ⟨has, hhas⟩ : ∃ b, b = !(allB fs teB).isEmpty := ⟨_, rfl⟩
  rw [← hhas] at HC hae
  unfold teB at HC
  have HSP := Lib.hid (fun (W : World) => rsplit_any J hj W)
  cases has with
  | false =>
    rw [if_pos (hae.1 rfl)] at hcp
    have HV := Lib.hid hcp
    clear hcp hV hJ hae hhas h hl hs hs2 hj
    go_enter Tryz.func85, Tryz.ntmps85
    go_wp2_with fail
    refine HC.out.mono ?_
    rintro x1 w1 ⟨rfl, hb⟩
    have HB := Lib.hid hb
    clear hb
    go_wp2_with fail
    refine (HSP.out _).mono ?_
    rintro x2 w2 ⟨v2, rfl, ho, hb⟩
    have HB2 := Lib.hid (HB.out.trans (hb.mono HB.out.size))
    clear ho hb
    go_wp2_with fail
    go_ret2
    rw [HV.out]
    exact ⟨rfl, HB2.out⟩
  | true =>
    rw [if_neg (fun e => by have := hae.2 e; cases this)] at hcp
    cases hsp : splitP J with
    | none =>
      rw [hsp] at HSP hcp
      simp only [Option.isSome_none, Option.getD_none] at HSP
      have HV : Hid (V = (false, 14)) := hcp
      clear hcp hV hJ hae hhas h hl hs hs2 hj hsp
      go_enter Tryz.func85, Tryz.ntmps85
      go_wp2_with fail
      refine HC.out.mono ?_
      rintro x1 w1 ⟨rfl, hb⟩
      have HB := Lib.hid hb
      clear hb
      go_wp2_with fail
      refine (HSP.out _).mono ?_
      rintro x2 w2 ⟨v2, rfl, ho, hb⟩
      have HB2 := Lib.hid (HB.out.trans (hb.mono HB.out.size))
      clear ho hb
      go_wp2_with fail
      go_ret2
      rw [HV.out]
      exact ⟨rfl, HB2.out⟩
    | some L =>
      rw [hsp] at HSP hcp
      simp only [Option.isSome_some, Option.getD_some] at HSP
      have hcr : V = codR L := hcp
      have hll : L.length ≤ 1000000 := by have h1 := split_len J; rw [hsp] at h1; simp only [Option.getD_some] at h1; omega
      have hls : ∀ a ∈ L, a.size ≤ 900000 := fun a ha => by have h1 := split_size J a (by rw [hsp]; exact ha); omega
      have HLS := Lib.hid hls
      obtain ⟨n, hn⟩ : ∃ n, n = L.length := ⟨_, rfl⟩
      have HN := Lib.hid hn
      have hn6 : n ≤ 1000000 := by omega
      have HCR := Lib.hid hcr
      rw [← hn] at hll
      by_cases hn0 : n = 0
      · have HV : Hid (V = (false, 14)) := by
          show V = _
          have : L = [] := List.eq_nil_of_length_eq_zero (by omega)
          rw [hcr, this]
          rfl
        have e0 : ((n : Int) == 0) = true := by rw [beq_iff_eq]; omega
        clear hcp hV hJ hae hhas h hl hs hs2 hj hsp hcr hls hn0
        go_enter Tryz.func85, Tryz.ntmps85
        go_wp2_with fail
        refine HC.out.mono ?_
        rintro x1 w1 ⟨rfl, hb⟩
        have HB := Lib.hid hb
        clear hb
        go_wp2_with fail
        refine (HSP.out _).mono ?_
        rintro x2 w2 ⟨v2, rfl, ho, hb⟩
        obtain ⟨p2, c2, rfl⟩ := OwnS.shape ho
        have HB2 := Lib.hid (HB.out.trans (hb.mono HB.out.size))
        clear ho hb
        rw [← hn]
        clear hn
        go_wp2_with fail
        go_ret2
        rw [HV.out]
        exact ⟨rfl, HB2.out⟩
      · have e0 : ((n : Int) == 0) = false := by rw [beq_eq_false_iff_ne]; omega
        clear hcp hV hJ hae hhas h hl hs hs2 hj hsp hcr hls
        go_enter Tryz.func85, Tryz.ntmps85
        go_wp2_with fail
        refine HC.out.mono ?_
        rintro x1 w1 ⟨rfl, hb⟩
        have HB := Lib.hid hb
        clear hb
        go_wp2_with fail
        refine (HSP.out _).mono ?_
        rintro x2 w2 ⟨v2, rfl, ho, hb⟩
        obtain ⟨p2, c2, rfl⟩ := OwnS.shape ho
        have HB2 := Lib.hid (HB.out.trans (hb.mono HB.out.size))
        have HS2 := Lib.hid (OwnS.strs ho)
        clear ho hb
        rw [← hn] at HS2 ⊢
        clear hn
        go_wp2_with fail
        go_loopw [8] (fun u8 wr => ∃ k : Nat, k ≤ n ∧ u8 = .int .i64 k ∧ (∀ j (hj : j < L.length), j < k → wBad (decide (j + 1 = n)) L[j] = false) ∧ Below w2.heap.size w2 wr) (fun u8 _ => n - (intOf u8).toNat)
        case atStart => exact ⟨0, Nat.zero_le _, rfl, fun j _ h => absurd h (Nat.not_lt_zero _), Below.refl _ _⟩
        case round =>
          obtain ⟨k, hk, rfl, hall, hb⟩ := hrel
          have HBR := Lib.hid hb
          have HALL := Lib.hid hall
          have HSR := Lib.hid (HS2.out.below hb)
          clear hb hall
          by_cases hlt : k < n
          · have hk1 : decide ((k : Int) < (n : Int)) = true := decide_eq_true (by omega)
            have hkL : k < L.length := by rw [← HN.out]; exact hlt
            obtain ⟨p7, c7, hv7, hcell⟩ := HSR.out
            injection hv7 with e1 e2 e3
            subst e1 e3
            obtain ⟨b, off, hp, c0⟩ := hcell k hkL
            subst hp
            obtain ⟨y, hy⟩ : ∃ y, y = L[k]'hkL := ⟨_, rfl⟩
            rw [← hy] at c0
            have HPW := Lib.hid (rparse08_any y (HLS.out y (by rw [hy]; exact List.getElem_mem _)) wr)
            have hbw := wBad_eq (decide (k + 1 = n)) y
            have hch : wCh y = decide ((wordP y).1 = chkB) := rfl
            obtain ⟨W, hW⟩ : ∃ W, W = wordP y := ⟨_, rfl⟩
            rw [← hW] at HPW hbw hch
            obtain ⟨W1, W2, W3⟩ := W
            dsimp only at HPW hbw hch
            have hst : (W1.toList == (⟨#[99, 104, 117, 110, 107, 101, 100]⟩ : ByteArray).toList) = wCh y := by rw [str_dec, hch]; rfl
            rw [show (⟨#[99, 104, 117, 110, 107, 101, 100]⟩ : ByteArray).toList = [99, 104, 117, 110, 107, 101, 100] from by rw [ByteArray.toList_eq]] at hst
            obtain ⟨B, hBe⟩ : ∃ b, b = wCh y := ⟨_, rfl⟩
            rw [← hBe] at hst hbw
            have hlast : ((k : Int) == (n : Int) - 1) = decide (k + 1 = n) := by
              rw [Bool.eq_iff_iff, beq_iff_eq, decide_eq_true_eq]; omega
            obtain ⟨LA, hLA⟩ : ∃ b, b = decide (k + 1 = n) := ⟨_, rfl⟩
            rw [← hLA] at hlast hbw
            have HLA := Lib.hid hLA
            have HY := Lib.hid hy
            have hk0 : (0 : Int) ≤ (k : Int) := by omega
            have hki : (k : Int) < (n : Int) := by omega
            have HBW := Lib.hid hbw
            have HKL := Lib.hid hkL
            clear hy hW hch hBe hLA hcell e2 hbw
            -- the test
            have htest : (W3 != 0) = true ∨ ((W3 != 0) = false ∧ (LA != B) = true) ∨ ((W3 != 0) = false ∧ (LA != B) = false) := by
              cases (W3 != 0) <;> cases (LA != B) <;> simp
            rcases htest with g1 | ⟨g1, g2⟩ | ⟨g1, g2⟩
            · have HV : Hid (V = (false, 14)) := by
                show V = _
                refine HCR.out.trans (codR_bad (k := k) HKL.out ?_)
                rw [← HY.out, ← HN.out, ← HLA.out, HBW.out, g1]
                rfl
              go_wp2_with (go_at_call 129; refine HPW.out.mono ?_)
              rintro x3 w3 ⟨p3, c3, rfl, hb3⟩
              have HB3 := Lib.hid (HBR.out.trans (hb3.mono HBR.out.size))
              clear hb3
              go_wp2_with fail
              go_ret2
              rw [HV.out]
              exact ⟨rfl, HB2.out.trans (HB3.out.mono HB2.out.size)⟩
            · have HV : Hid (V = (false, 14)) := by
                show V = _
                refine HCR.out.trans (codR_bad (k := k) HKL.out ?_)
                rw [← HY.out, ← HN.out, ← HLA.out, HBW.out, g2]
                simp
              cases LA <;> cases B <;> simp only [bne_self_eq_false, Bool.false_bne, Bool.true_bne, Bool.not_true, Bool.not_false, Bool.false_eq_true, reduceCtorEq] at g2
              all_goals
                go_wp2_with (go_at_call 129; refine HPW.out.mono ?_)
                rintro x3 w3 ⟨p3, c3, rfl, hb3⟩
                have HB3 := Lib.hid (HBR.out.trans (hb3.mono HBR.out.size))
                clear hb3
                go_wp2_with fail
                go_ret2
                rw [HV.out]
                exact ⟨rfl, HB2.out.trans (HB3.out.mono HB2.out.size)⟩
            · cases LA <;> cases B <;> simp only [bne_self_eq_false, Bool.false_bne, Bool.true_bne, Bool.not_true, Bool.not_false, Bool.true_eq_false, reduceCtorEq] at g2
              · have HG : Hid (wBad (decide (k + 1 = n)) y = false) := by show _ = _; rw [← HLA.out, HBW.out, g1]; rfl
                go_wp2_with (go_at_call 129; refine HPW.out.mono ?_)
                rintro x3 w3 ⟨p3, c3, rfl, hb3⟩
                have HB3 := Lib.hid (HBR.out.trans (hb3.mono HBR.out.size))
                clear hb3
                go_wp2_with fail
                go_roundw
                case rel => exact ⟨k + 1, hlt, by go_num, fun j hj hjk => by
                  rcases Nat.lt_or_ge j k with h | h
                  · exact HALL.out j hj h
                  · have e : j = k := by omega
                    subst e
                    rw [← HY.out]; exact HG.out, HB3.out⟩
                case measure => simp [intOf]; omega
              · by_cases hW2 : 0 < W2
                · have o1 : decide ((0 : Int) < (W2 : Int)) = true := decide_eq_true (by omega)
                  have o2 : decide (0 < W2) = true := decide_eq_true hW2
                  have HV : Hid (V = (false, 14)) := by
                    show V = _
                    refine HCR.out.trans (codR_bad (k := k) HKL.out ?_)
                    rw [← HY.out, ← HN.out, ← HLA.out, HBW.out, o2]
                    simp
                  go_wp2_with (go_at_call 129; refine HPW.out.mono ?_)
                  rintro x3 w3 ⟨p3, c3, rfl, hb3⟩
                  have HB3 := Lib.hid (HBR.out.trans (hb3.mono HBR.out.size))
                  clear hb3
                  go_wp2_with fail
                  go_ret2
                  rw [HV.out]
                  exact ⟨rfl, HB2.out.trans (HB3.out.mono HB2.out.size)⟩
                · have o1 : decide ((0 : Int) < (W2 : Int)) = false := decide_eq_false (by omega)
                  have o2 : decide (0 < W2) = false := decide_eq_false hW2
                  have HG : Hid (wBad (decide (k + 1 = n)) y = false) := by show _ = _; rw [← HLA.out, HBW.out, g1, o2]; rfl
                  go_wp2_with (go_at_call 129; refine HPW.out.mono ?_)
                  rintro x3 w3 ⟨p3, c3, rfl, hb3⟩
                  have HB3 := Lib.hid (HBR.out.trans (hb3.mono HBR.out.size))
                  clear hb3
                  go_wp2_with fail
                  go_roundw
                  case rel => exact ⟨k + 1, hlt, by go_num, fun j hj hjk => by
                    rcases Nat.lt_or_ge j k with h | h
                    · exact HALL.out j hj h
                    · have e : j = k := by omega
                      subst e
                      rw [← HY.out]; exact HG.out, HB3.out⟩
                  case measure => simp [intOf]; omega
          · have hk1 : decide ((k : Int) < (n : Int)) = false := decide_eq_false (by omega)
            have hkn : k = n := by omega
            have hgood : ∀ j (hj : j < L.length), wBad (decide (j + 1 = L.length)) L[j] = false := fun j hj => by
              have h := HALL.out j hj (by rw [hkn, HN.out]; exact hj)
              rw [HN.out] at h
              exact h
            have hcv := codR_good (l := L) (by have := HN.out; omega) hgood
            rw [← HCR.out, ← HN.out] at hcv
            clear hkn hgood
            by_cases h1 : 1 < n
            · have HV : Hid (V = (false, 15)) := by show V = _; rw [hcv, if_pos h1]
              have o1 : decide ((1 : Int) < (n : Int)) = true := decide_eq_true (by omega)
              have o2 : decide (1 < n) = true := decide_eq_true h1
              clear hcv
              go_wp2_with fail
              go_ret2
              rw [HV.out]
              exact ⟨rfl, HB2.out.trans (HBR.out.mono HB2.out.size)⟩
            · have HV : Hid (V = (true, 0)) := by show V = _; rw [hcv, if_neg h1]
              have o1 : decide ((1 : Int) < (n : Int)) = false := decide_eq_false (by omega)
              have o2 : decide (1 < n) = false := decide_eq_false h1
              clear hcv
              go_wp2_with fail
              go_ret2
              rw [HV.out]
              exact ⟨rfl, HB2.out.trans (HBR.out.mono HB2.out.size)⟩
end Go.Proofs.YtcpjkemjpgggcaaGreatDoor

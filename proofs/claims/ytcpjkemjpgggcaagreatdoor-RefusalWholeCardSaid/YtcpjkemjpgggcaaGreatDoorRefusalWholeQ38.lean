/- Texts packed for one claim, 38 of 45: Cod Words. -/
import Derived.Test.YtcpjkemjpgggcaaGreatDoorRefusalWholeQ37
import Derived.Test.YtcpjkemjpgggcaaGreatDoorRefusalWholeQ18
import Derived.Test.YtcpjkemjpgggcaaGreatDoorRefusalWholeQ35
import Derived.Test.YtcpjkemjpgggcaaGreatDoorRefusalWholeQ36
set_option linter.unusedSimpArgs false
set_option linter.unusedVariables false
-- Cod
namespace Go.Proofs.YtcpjkemjpgggcaaGreatDoor
open Go.RowKit
theorem pcs_size : ∀ (l : List UInt8) (x : Sc) (a : List UInt8), ∀ p ∈ pcs x a l, p.length ≤ a.length + l.length
  | [], x, a, p, hp => by
    rw [pcs] at hp
    rw [List.mem_singleton.1 hp]
    simp
  | c :: l, x, a, p, hp => by
    rw [pcs] at hp
    split at hp
    · rcases List.mem_cons.1 hp with e | h
      · rw [e]; simp
      · have := pcs_size l x [] p h
        simp at this ⊢
        omega
    · have := pcs_size l _ _ p hp
      simp at this ⊢
      omega
theorem split_size (s : ByteArray) : ∀ e ∈ (splitP s).getD [], e.size ≤ s.size := by
  unfold splitP
  split
  · intro e he
    have he : e ∈ someL (pcs scz [] s.data.toList) := he
    unfold someL at he
    obtain ⟨h1, _⟩ := List.mem_filter.1 he
    obtain ⟨p, hp, rfl⟩ := List.mem_map.1 h1
    have h2 := pcs_size _ _ _ p hp
    have h3 := trimL_length p
    show (trimL p).toArray.size ≤ _
    simp at h2 ⊢
    omega
  · intro e he
    cases he
theorem pcs_len : ∀ (l : List UInt8) (x : Sc) (a : List UInt8), (pcs x a l).length ≤ l.length + 1
  | [], x, a => by rw [pcs]; simp
  | c :: l, x, a => by
    rw [pcs]
    split
    · have := pcs_len l x []
      simp
      omega
    · have := pcs_len l (x.see c.toNat) (a ++ [c])
      simp
      omega
theorem split_len (s : ByteArray) : ((splitP s).getD []).length ≤ s.size + 1 := by
  unfold splitP
  split
  · have h1 := someL_len (pcs scz [] s.data.toList)
    have h2 := pcs_len s.data.toList scz []
    have hl : s.data.toList.length = s.size := by simp
    show (someL _).length ≤ _
    omega
  · exact Nat.zero_le _
theorem codP_eq (fs : List Fd) : codP fs = if allB fs teB = [] then (false, 0) else if (splitP (joinL (allB fs teB))).isSome = false then (false, 14) else codQ ((splitP (joinL (allB fs teB))).getD []) := by
  unfold codP
  split
  · rfl
  · cases splitP (joinL (allB fs teB)) with
    | none => rfl
    | some l => rw [if_neg (by simp)]; exact (cod_law l).symm
theorem cntC_take (l : List ByteArray) (k : Nat) (h : k < l.length) : cntC (l.take (k + 1)) = cntC (l.take k) + if wCh l[k] = true then 1 else 0 := by
  rw [List.take_succ_eq_append_getElem h, cntC_append]
  congr 1
  unfold cntC
  cases hw : wCh l[k] <;> simp [hw]
theorem cntC_le (l : List ByteArray) : cntC l ≤ l.length := List.length_filter_le _ _
theorem chk_iff (s : ByteArray) : (s.toList == chkB.toList) = decide (s = chkB) := by
  rw [Bool.eq_iff_iff, beq_iff_eq, decide_eq_true_eq]
  constructor
  · intro h
    rw [ByteArray.toList_eq, ByteArray.toList_eq] at h
    exact ext_list h
  · intro h
    rw [h]
set_option maxRecDepth 100000 in
set_option maxHeartbeats 8000000 in
theorem chunked_any (fs : List Fd) (f : Value) (w : World) (h : Flds w f fs) (hl : fs.length ≤ 100000) (hs : ∀ g ∈ fs, g.1.size ≤ 1000000) (hs2 : ∀ g ∈ fs, g.2.size ≤ 1000000) (hj : (joinL (allB fs teB)).size ≤ 900000) :
    Calls Tryz.prog 79 #[f] w fun e w' => e = .returned (.tuple #[.bool (codP fs).1, .int .i64 (codP fs).2]) ∧ Below w.heap.size w w' := by
  have HCB := Lib.hid (hcomb_any fs f teB w h hl hs hs2 (by decide))
  have hcp := codP_eq fs
  obtain ⟨A, hA⟩ : ∃ A, A = allB fs teB := ⟨_, rfl⟩
  rw [← hA] at HCB hcp hj
  obtain ⟨J, hJ⟩ : ∃ J, J = joinL A := ⟨_, rfl⟩
  rw [← hJ] at HCB hcp hj
  obtain ⟨CP, hCP⟩ : ∃ C, C = codP fs := ⟨_, rfl⟩
  rw [← hCP] at hcp ⊢
  have HSP := Lib.hid (fun W => split_any J (by omega) W)
  have hsz := split_size J
  have hsl := split_len J
  obtain ⟨S, hS⟩ : ∃ S, S = splitP J := ⟨_, rfl⟩
  rw [← hS] at HSP hcp hsz hsl
  obtain ⟨l, hll⟩ : ∃ l, l = S.getD [] := ⟨_, rfl⟩
  rw [← hll] at HSP hcp hsz hsl
  have HSZ : Hid (∀ e ∈ l, e.size ≤ 1000000) := fun e he => by have := hsz e he; omega
  have HLL : Hid (l.length ≤ 1000000) := by show _ ≤ _; omega
  have hl0 : S.isSome = false → l = [] := fun h => by
    cases S with
    | none => exact hll
    | some _ => cases h
  have hcp2 : CP = if A.isEmpty = true then (false, 0) else if S.isSome = false then (false, 14) else codQ l := by
    rw [hcp]
    cases A <;> rfl
  obtain ⟨so, hso⟩ : ∃ b, b = S.isSome := ⟨_, rfl⟩
  rw [← hso] at HSP hl0 hcp2
  have HCP := Lib.hid hcp2
  have HL0 := Lib.hid hl0
  clear h hl hs hs2 hj hcp hcp2 hA hJ hCP hS hll hl0 hso hsz hsl
  obtain ⟨n, hn⟩ : ∃ n, n = l.length := ⟨_, rfl⟩
  have HN := Lib.hid hn
  obtain ⟨ae, hae⟩ : ∃ b, b = A.isEmpty := ⟨_, rfl⟩
  rw [← hae] at HCB HCP
  have HWD := Lib.hid (fun (e : ByteArray) (he : e.size ≤ 1000000) (W : World) => word_any e he W)
  clear hn hae
  unfold teB at HCB
  go_enter Tryz.func79, Tryz.ntmps79
  generalize hck : (⟨#[99, 104, 117, 110, 107, 101, 100]⟩ : ByteArray) = CK
  have HCK : Hid (CK = chkB) := hck.symm
  clear hck
  cases ae with
  | true =>
    have HE : Hid (CP = (false, 0)) := by show _ = _; rw [HCP.out, if_pos rfl]
    go_wp2_with (go_at_call 110; refine HCB.out.mono ?_; rintro e1 w1 ⟨rfl, hb⟩; have HB := Lib.hid hb; clear hb)
    go_ret2
    rw [HE.out]
    exact ⟨rfl, HB.out⟩
  | false =>
    have HE : Hid (CP = if so = false then (false, 14) else codQ l) := by show _ = _; rw [HCP.out, if_neg (by decide)]
    clear HCP
    go_wp2_with (first
      | (go_at_call 110; refine HCB.out.mono ?_; rintro e1 w1 ⟨rfl, hb⟩; have HB := Lib.hid hb; clear hb)
      | (go_at_call 111; refine (HSP.out _).mono ?_; rintro e2 w2 ⟨v2, rfl, ho2, hb2⟩; obtain ⟨p2, c2, rfl⟩ := ho2.shape; rw [← HN.out] at ho2 ⊢; have HO := Lib.hid ho2; have HB2 := Lib.hid (HB.out.trans (hb2.mono HB.out.size)); clear ho2 hb2))
    go_loopw [7, 8, 31] (fun u7 u8 i wr => ∃ k : Nat, k ≤ n ∧ i = .int .i64 k ∧ u7 = .bool (so && (l.take k).all wOk) ∧ u8 = .int .i64 ((cntC (l.take k) : Nat) : Int) ∧ Below w2.heap.size w2 wr) (fun _ _ i _ => n - (intOf i).toNat)
    case atStart => exact ⟨0, Nat.zero_le _, rfl, by simp, rfl, Below.refl _ _⟩
    case round =>
      obtain ⟨k, hk, rfl, hu7, rfl, hb⟩ := hrel
      have HBB := Lib.hid hb
      have HOW := Lib.hid (HO.out.call hb)
      have HBW : Hid (Below w.heap.size w wr) := HB2.out.trans (hb.mono HB2.out.size)
      obtain ⟨b7, hb7⟩ : ∃ b, b = (so && (l.take k).all wOk) := ⟨_, rfl⟩
      rw [← hb7] at hu7
      subst hu7
      have HB7 := Lib.hid hb7
      obtain ⟨m, hm⟩ : ∃ m, m = cntC (l.take k) := ⟨_, rfl⟩
      rw [← hm]
      have HM := Lib.hid hm
      have hmk : m ≤ k := by rw [hm]; have := cntC_le (l.take k); rw [List.length_take] at this; omega
      have hmi : (m : Int) ≤ 1000000 := by have := HLL.out; have := HN.out; omega
      clear hb hb7 hm
      by_cases hlt : k < n
      · have hk1 : decide ((k : Int) < (n : Int)) = true := decide_eq_true (by omega)
        have hkl : k < l.length := by rw [← HN.out]; exact hlt
        obtain ⟨pp, cc, hv, hc⟩ := HOW.out.strs
        obtain ⟨b, off, hp, hce⟩ := hc k hkl
        injection hv with e1 e2 e3
        rw [← e1] at hp
        subst hp
        obtain ⟨x, hx⟩ : ∃ x, x = l[k] := ⟨_, rfl⟩
        rw [← hx] at hce
        have HXS : Hid (x.size ≤ 1000000) := HSZ.out x (by rw [hx]; exact List.getElem_mem hkl)
        have HW1 := Lib.hid (HWD.out x HXS.out wr)
        have hwc : wCh x = decide ((wordP x).1 = chkB) := rfl
        obtain ⟨W1, hW1⟩ : ∃ W, W = (wordP x).1 := ⟨_, rfl⟩
        rw [← hW1] at HW1 hwc
        have hcmp := chk_iff W1
        rw [← hwc, ← HCK.out] at hcmp
        obtain ⟨wc, hwcc⟩ : ∃ b, b = wCh x := ⟨_, rfl⟩
        rw [← hwcc] at hcmp
        obtain ⟨wo, hwo⟩ : ∃ b, b = wOk x := ⟨_, rfl⟩
        rw [← hwo] at HW1
        obtain ⟨wd, hwd⟩ : ∃ b, b = decide (0 < (wordP x).2.1) := ⟨_, rfl⟩
        rw [← hwd] at HW1
        have HT : Hid (cntC (l.take (k + 1)) = m + if wc = true then 1 else 0) := by show _ = _; rw [cntC_take l k hkl, ← HM.out, ← hx, hwcc]
        have HA7 : Hid ((so && (l.take (k + 1)).all wOk) = (b7 && wo)) := by
          show _ = _
          rw [List.take_succ_eq_append_getElem hkl, List.all_append, HB7.out, ← hx, hwo]
          cases so <;> simp
        have hki : (k : Int) ≤ 1000000 := by have := HLL.out; omega
        clear hc e1 e2 e3 hx hwc hW1 hwcc hwo hwd
        cases b7 <;> cases wc
        all_goals
          go_wp2_with (go_at_call 122; refine HW1.out.mono ?_; rintro e6 w6 ⟨rfl, hb6⟩; have HB6 := Lib.hid (HBB.out.trans (hb6.mono HBB.out.size)); clear hb6)
          go_roundw
          case rel => exact ⟨k + 1, hlt, by go_num, by rw [HA7.out]; rfl, by rw [HT.out]; first | rfl | simp, HB6.out⟩
          case measure => simp [intOf]; omega
      · have hk1 : decide ((k : Int) < (n : Int)) = false := decide_eq_false (by omega)
        have hkn : k = n := by omega
        have HTK : Hid (l.take k = l) := by show _ = _; rw [hkn, HN.out, List.take_length]
        have HM2 : Hid (m = cntC l) := by show _ = _; rw [HM.out, HTK.out]
        have HB72 : Hid (b7 = (so && l.all wOk)) := by show _ = _; rw [HB7.out, HTK.out]
        clear hkn
        by_cases hbad : b7 = true ∧ m = 1
        · obtain ⟨rfl, rfl⟩ := hbad
          obtain ⟨rfl, hall⟩ : so = true ∧ l.all wOk = true := by
            have h := HB72.out
            cases so
            · cases h
            · exact ⟨rfl, h.symm⟩
          obtain ⟨j, hj⟩ : ∃ j, n = j + 1 := ⟨n - 1, by
            have h1 := HM2.out
            have h2 := cntC_le l
            have h3 := HN.out
            omega⟩
          have hjl : j < l.length := by rw [← HN.out]; omega
          obtain ⟨pp, cc, hv, hc⟩ := HOW.out.strs
          obtain ⟨b, off, hp, hce⟩ := hc j hjl
          injection hv with e1 e2 e3
          rw [← e1] at hp
          subst hp
          obtain ⟨x, hx⟩ : ∃ x, x = l[j] := ⟨_, rfl⟩
          rw [← hx] at hce
          have HXS : Hid (x.size ≤ 1000000) := HSZ.out x (by rw [hx]; exact List.getElem_mem hjl)
          have HW1 := Lib.hid (HWD.out x HXS.out wr)
          have hlast : l.getLast? = some x := by
            rw [List.getLast?_eq_getElem?, show l.length - 1 = j by have := HN.out; omega, List.getElem?_eq_getElem hjl, hx]
          have HQ : Hid (CP = if wCh x = false ∨ 0 < (wordP x).2.1 then (false, 14) else if 1 < n then (false, 15) else (true, 0)) := by
            show _ = _
            rw [HE.out, if_neg (by decide)]
            unfold codQ
            rw [if_neg (by rw [hall, ← HM2.out]; simp), hlast, HN.out]
          have hwc : wCh x = decide ((wordP x).1 = chkB) := rfl
          obtain ⟨W1, hW1⟩ : ∃ W, W = (wordP x).1 := ⟨_, rfl⟩
          rw [← hW1] at HW1 hwc
          have hcmp := chk_iff W1
          rw [← hwc, ← HCK.out] at hcmp
          obtain ⟨wc, hwcc⟩ : ∃ b, b = wCh x := ⟨_, rfl⟩
          rw [← hwcc] at hcmp HQ
          obtain ⟨wo, hwo⟩ : ∃ b, b = wOk x := ⟨_, rfl⟩
          rw [← hwo] at HW1
          obtain ⟨wd, hwd⟩ : ∃ b, b = decide (0 < (wordP x).2.1) := ⟨_, rfl⟩
          rw [← hwd] at HW1
          have HQ2 : Hid (CP = if wc = false ∨ wd = true then (false, 14) else if 1 < n then (false, 15) else (true, 0)) := by
            show _ = _
            rw [HQ.out, hwd]
            simp only [decide_eq_true_eq]
          have hji : (j : Int) ≤ 1000000 := by have := HLL.out; omega
          have hn1 : ((n : Nat) : Int) - 1 = (j : Int) := by omega
          have hn2 : wrap64 ((n : Int) - 1) = (j : Int) := by rw [hn1]; exact IntWalk.wrap64_in (j : Int) ⟨by omega, by omega⟩
          have hjn : (j : Int) < (n : Int) := by omega
          have hj0 : (0 : Int) ≤ (j : Int) := by omega
          have hcmp2 : (W1.toList != CK.toList) = !wc := by rw [bne, hcmp]
          have hw1 : wrap64 ((j : Int) + 1 - 1) = (j : Int) := by rw [show (j : Int) + 1 - 1 = (j : Int) by omega]; exact IntWalk.wrap64_in (j : Int) ⟨by omega, by omega⟩
          clear hc e1 e2 e3 hx hwc hW1 hwcc hwo hwd hlast HQ hall
          by_cases hn15 : 1 < n
          · have d1 : decide ((1 : Int) < (n : Int)) = true := decide_eq_true (by omega)
            have d2 : decide (1 < n) = true := decide_eq_true hn15
            cases wc <;> cases wd
            all_goals
              go_wp2_with (go_at_call 122; refine HW1.out.mono ?_; rintro e6 w6 ⟨rfl, hb6⟩; have HB6 := Lib.hid (HBW.out.trans (hb6.mono HBW.out.size)); clear hb6)
              go_ret2
              rw [HQ2.out]
              simp only [Bool.false_eq_true, or_false, or_true, true_or, false_or, if_true, if_false, hn15, reduceCtorEq]
              exact ⟨rfl, HB6.out⟩
          · have d1 : decide ((1 : Int) < (n : Int)) = false := decide_eq_false (by omega)
            have d2 : decide (1 < n) = false := decide_eq_false hn15
            cases wc <;> cases wd
            all_goals
              go_wp2_with (go_at_call 122; refine HW1.out.mono ?_; rintro e6 w6 ⟨rfl, hb6⟩; have HB6 := Lib.hid (HBW.out.trans (hb6.mono HBW.out.size)); clear hb6)
              go_ret2
              rw [HQ2.out]
              simp only [Bool.false_eq_true, or_false, or_true, true_or, false_or, if_true, if_false, hn15, reduceCtorEq]
              exact ⟨rfl, HB6.out⟩
        · have HQ : Hid (CP = (false, 14)) := by
            show _ = _
            rw [HE.out]
            cases hso : so with
            | false => rw [if_pos rfl]
            | true =>
              rw [if_neg (by decide)]
              unfold codQ
              rw [if_pos]
              rw [hso] at HB72
              by_cases h7 : b7 = true
              · right
                intro h
                exact hbad ⟨h7, by rw [HM2.out]; exact h⟩
              · left
                have h := HB72.out
                cases b7
                · exact h.symm
                · exact absurd rfl h7
          cases b7 with
          | false =>
            go_wp2_with fail
            go_ret2
            rw [HQ.out]
            exact ⟨rfl, HBW.out⟩
          | true =>
            have hm1 : ((m : Int) != 1) = true := by rw [bne_iff_ne]; intro h; exact hbad ⟨rfl, by omega⟩
            have hm2 : (m != 1) = true := by rw [bne_iff_ne]; intro h; exact hbad ⟨rfl, h⟩
            have hm3 : (m == 1) = false := by rw [beq_eq_false_iff_ne]; intro h; exact hbad ⟨rfl, h⟩
            clear hbad
            go_wp2_with fail
            go_ret2
            rw [HQ.out]
            exact ⟨rfl, HBW.out⟩
end Go.Proofs.YtcpjkemjpgggcaaGreatDoor
-- Words
namespace Go.Proofs.YtcpjkemjpgggcaaGreatDoor
open Go.RowKit
def conB : ByteArray := ⟨#[67, 111, 110, 110, 101, 99, 116, 105, 111, 110]⟩
def closeB : ByteArray := ⟨#[99, 108, 111, 115, 101]⟩
def keepB : ByteArray := ⟨#[107, 101, 101, 112, 45, 97, 108, 105, 118, 101]⟩
/-- The words of a Connection field, lowered; none: some are wrong. -/
def wordsP (fs : List Fd) : Option (List ByteArray) :=
  match splitP (joinL (allB fs conB)) with
  | none => none
  | some l => if l.all (fun a => tokL a.data.toList) = true then some (l.map lowB) else none
/-- Is a text among these? -/
def hasB (l : List ByteArray) (x : ByteArray) : Bool := l.any fun a => decide (a = x)
def persP (k : Int) (fs : List Fd) : Bool :=
  match wordsP fs with
  | none => false
  | some l => !(hasB l closeB) && (decide (0 < k) || hasB l keepB)
set_option maxRecDepth 100000 in
theorem words1_any (a : ByteArray) (ha : a.size ≤ 1000000) (w : World) : Calls Tryz.prog 113 #[.string a] w fun e w' => e = .returned (.bool (!tokL a.data.toList)) ∧ Below w.heap.size w w' := by
  have HT := Lib.hid (token_any a (by omega) w)
  obtain ⟨b, hb⟩ : ∃ b, b = tokL a.data.toList := ⟨_, rfl⟩
  rw [← hb] at HT ⊢
  clear hb ha
  go_enter Tryz.func113, Tryz.ntmps113
  go_wp2_with (go_at_call 89; refine HT.out.mono ?_; rintro e1 w1 ⟨rfl, hb⟩; have HB := Lib.hid hb; clear hb)
  go_ret
  exact ⟨rfl, HB.out⟩
set_option maxRecDepth 100000 in
set_option maxHeartbeats 1000000 in
theorem indexW_any (names : List ByteArray) (p : Option Addr) (n c : Nat) (w : World) (hS : Strs w (.slice p n c) names) (hl : names.length ≤ 1000000) (hs : ∀ a ∈ names, a.size ≤ 1000000) :
    Calls Tryz.prog 152 #[.slice p n c, .func (.func 113) #[] #[]] w fun e w' => ∃ k : Int, e = .returned (.int .i64 k) ∧ ((names.any (fun a => !tokL a.data.toList) = true ∧ 0 ≤ k) ∨ (names.any (fun a => !tokL a.data.toList) = false ∧ k = -1)) ∧ Below w.heap.size w w' := by
  have H : ∀ a ∈ names, ∀ W, Calls Tryz.prog 113 #[.string a] W fun e w' => e = .returned (.bool ((fun a : ByteArray => !tokL a.data.toList) a)) ∧ Below W.heap.size W w' := fun a ha W => words1_any a (hs a ha) W
  obtain ⟨q, hq⟩ : ∃ q : ByteArray → Bool, q = fun a : ByteArray => !tokL a.data.toList := ⟨_, rfl⟩
  rw [← hq] at H ⊢
  clear hq
  have HH := Lib.hid H
  obtain ⟨p', c', hv, hc⟩ := hS
  injection hv with e1 e2 e3
  subst e1 e3
  have HC := Lib.hid hc
  have HN := Lib.hid e2
  rw [← e2] at hl
  clear hc H e2 hs
  go_enter Tryz.func152, Tryz.ntmps152
  go_wp2_with fail
  go_loopw [8] (fun i wr => ∃ k : Nat, k ≤ n ∧ i = .int .i64 k ∧ (names.take k).any q = false ∧ Below w.heap.size w wr) (fun i _ => n - (intOf i).toNat)
  case atStart => exact ⟨0, Nat.zero_le _, rfl, by simp, Below.refl _ _⟩
  case round =>
    obtain ⟨k, hk, rfl, hp, hb⟩ := hrel
    have HB := Lib.hid hb
    have HP := Lib.hid hp
    clear hb hp
    by_cases hlt : k < n
    · have hk1 : decide ((k : Int) < (n : Int)) = true := decide_eq_true (by omega)
      obtain ⟨b, off, hp, c0⟩ := HC.out k (by rw [← HN.out]; exact hlt)
      subst hp
      obtain ⟨a, ha⟩ : ∃ a, a = names[k]'(by rw [← HN.out]; exact hlt) := ⟨_, rfl⟩
      rw [← ha] at c0
      have hblt := World.block_lt_of_cell? w _ c0
      have c0 := ((bcell HB.out) b _ hblt).trans c0
      have ham : a ∈ names := by rw [ha]; exact List.getElem_mem _
      have HT : Hid ((names.take (k + 1)).any q = ((names.take k).any q || q a)) := by
        show _ = _
        rw [List.take_succ_eq_append_getElem (by rw [← HN.out]; exact hlt), List.any_append, ← ha]
        simp
      have HQ := Lib.hid (HH.out a ham wr)
      have HAM := Lib.hid ham
      obtain ⟨v, hv⟩ : ∃ v, v = q a := ⟨_, rfl⟩
      have HV := Lib.hid hv
      rw [← hv] at HQ HT
      have hk0 : (0 : Int) ≤ (k : Int) := by omega
      have hki : (k : Int) < (n : Int) := by omega
      clear ha hblt ham hv
      cases v with
      | true =>
        go_wp2_with (go_at_call 113; refine HQ.out.mono ?_; rintro e' w' ⟨rfl, hb⟩; have HB' := Lib.hid (HB.out.trans (hb.mono HB.out.size)); clear hb)
        go_ret
        exact ⟨_, rfl, Or.inl ⟨List.any_eq_true.2 ⟨a, HAM.out, HV.out.symm⟩, by omega⟩, HB'.out⟩
      | false =>
        go_wp2_with (go_at_call 113; refine HQ.out.mono ?_; rintro e' w' ⟨rfl, hb⟩; have HB' := Lib.hid (HB.out.trans (hb.mono HB.out.size)); clear hb)
        go_roundw
        case rel => exact ⟨k + 1, hlt, by go_num, by rw [HT.out, HP.out]; rfl, HB'.out⟩
        case measure => simp [intOf]; omega
    · have hk1 : decide ((k : Int) < (n : Int)) = false := decide_eq_false (by omega)
      have hkn : k = n := by omega
      have HF : Hid (names.any q = false) := by
        show _ = _
        have := HP.out
        rw [hkn, HN.out, List.take_length] at this
        exact this
      clear hkn
      go_wp2_with fail
      go_ret
      exact ⟨_, rfl, Or.inr ⟨HF.out, rfl⟩, HB.out⟩
set_option maxRecDepth 100000 in
set_option maxHeartbeats 1000000 in
theorem containsW_any (names : List ByteArray) (p : Option Addr) (n c : Nat) (w : World) (hS : Strs w (.slice p n c) names) (hl : names.length ≤ 1000000) (hs : ∀ a ∈ names, a.size ≤ 1000000) :
    Calls Tryz.prog 112 #[.slice p n c, .func (.func 113) #[] #[]] w fun e w' => e = .returned (.bool (!(names.all fun a => tokL a.data.toList))) ∧ Below w.heap.size w w' := by
  have HI := Lib.hid (indexW_any names p n c w hS hl hs)
  have ha : (!(names.all fun a => tokL a.data.toList)) = names.any (fun a => !tokL a.data.toList) := by rw [List.not_all_eq_any_not]
  rw [ha]
  clear hS hl hs ha
  go_enter Tryz.func112, Tryz.ntmps112
  go_wp2_with fail
  refine HI.out.mono ?_
  rintro e' w' ⟨k, rfl, hk, hb⟩
  have HB := Lib.hid hb
  have hd : Hid (names.any (fun a => !tokL a.data.toList) = decide (0 ≤ k)) := by
    show _ = _
    rcases hk with ⟨h1, h2⟩ | ⟨h1, h2⟩
    · rw [h1, decide_eq_true h2]
    · rw [h1, h2]; rfl
  clear hb hk
  go_wp2_with fail
  go_ret
  rw [hd.out]
  exact ⟨rfl, HB.out⟩
/-- The first k texts lowered, the others as they were. -/
def lowK (k : Nat) (L : List ByteArray) : List ByteArray := (L.take k).map lowB ++ L.drop k
theorem lowK_len (k : Nat) (L : List ByteArray) : (lowK k L).length = L.length := by unfold lowK; rw [List.length_append, List.length_map, ← List.length_append, List.take_append_drop]
theorem lowK_zero (L : List ByteArray) : lowK 0 L = L := by unfold lowK; simp
theorem lowK_all (L : List ByteArray) : lowK L.length L = L.map lowB := by unfold lowK; simp
theorem lowK_zlen {k : Nat} {L : List ByteArray} (h : k < L.length) : ((L.take k).map lowB).length = k := by rw [List.length_map, List.length_take]; omega
theorem lowK_get {k : Nat} {L : List ByteArray} (h : k < L.length) : (lowK k L)[k]'(by rw [lowK_len]; exact h) = L[k] := by
  have hz := lowK_zlen h
  unfold lowK
  rw [List.getElem_append_right (by omega)]
  simp only [hz, Nat.sub_self, List.getElem_drop, Nat.add_zero]
theorem lowK_set {k : Nat} {L : List ByteArray} (h : k < L.length) : (lowK k L).set k (lowB L[k]) = lowK (k + 1) L := by
  have hz := lowK_zlen h
  unfold lowK
  rw [List.set_append, if_neg (by omega), hz, Nat.sub_self, List.take_succ_eq_append_getElem h, List.map_append, List.drop_eq_getElem_cons h, List.set_cons_zero, List.append_assoc]
  rfl
theorem ownS_froz {w : World} {B g cap n : Nat} {l : List ByteArray} (h : OwnS w B (.slice (some ⟨g, 0, none⟩) n cap) l) (h0 : 0 < l.length) (i : Nat) : w.frozen? ⟨g, i, none⟩ = false := by
  obtain ⟨g', cap', cur, hv, _, hg, _⟩ := h.block h0
  cases hv
  exact Blk.froz (t := 9) (cs := cur) hg i
set_option maxRecDepth 100000 in
set_option maxHeartbeats 4000000 in
theorem words_any (fs : List Fd) (f : Value) (w : World) (h : Flds w f fs) (hl : fs.length ≤ 100000) (hs : ∀ g ∈ fs, g.1.size ≤ 1000000) (hs2 : ∀ g ∈ fs, g.2.size ≤ 1000000) (hj : (joinL (allB fs conB)).size ≤ 900000) :
    Calls Tryz.prog 70 #[f] w fun e w' => ∃ v, e = .returned (.tuple #[v, .int .i64 (if (wordsP fs).isSome then 0 else 3)]) ∧ OwnS w' w.heap.size v ((wordsP fs).getD []) ∧ Below w.heap.size w w' := by
  have HC := Lib.hid (hcomb_any fs f conB w h hl hs hs2 (by decide))
  obtain ⟨J, hJ⟩ : ∃ J, J = joinL (allB fs conB) := ⟨_, rfl⟩
  obtain ⟨has, hhas⟩ : ∃ b, b = !(allB fs conB).isEmpty := ⟨_, rfl⟩
  have hWP : wordsP fs = match splitP J with
      | none => none
      | some l => if l.all (fun a => tokL a.data.toList) = true then some (l.map lowB) else none := by rw [hJ]; rfl
  rw [← hJ] at HC hj
  rw [← hhas] at HC
  have HSP := Lib.hid (fun (W : World) => split_any J (by omega) W)
  unfold conB at HC
  cases hp : splitP J with
  | none =>
    rw [hp] at HSP hWP
    rw [show wordsP fs = none from hWP]
    simp only [Option.isSome_none, Option.getD_none] at HSP ⊢
    clear hWP hJ hhas hl hs hs2 hj hp h
    go_enter Tryz.func70, Tryz.ntmps70
    go_wp2_with (go_at_call 110; refine HC.out.mono ?_; rintro e1 w1 ⟨rfl, hb⟩; have HB1 := Lib.hid hb; clear hb)
    refine (HSP.out _).mono ?_
    rintro e2 w2 ⟨v2, rfl, ho, hb⟩
    have HB2 := Lib.hid (HB1.out.trans (hb.mono HB1.out.size))
    clear ho hb
    go_wp2_with fail
    go_ret2
    exact ⟨_, rfl, OwnS.start _ _, HB2.out⟩
  | some L =>
    rw [hp] at HSP hWP
    simp only [Option.isSome_some, Option.getD_some] at HSP
    have hWP : wordsP fs = if L.all (fun a => tokL a.data.toList) = true then some (L.map lowB) else none := hWP
    have hll : L.length ≤ 1000000 := by have h1 := split_len J; rw [hp] at h1; simp only [Option.getD_some] at h1; omega
    have hls : ∀ a ∈ L, a.size ≤ 1000000 := fun a ha => by have h1 := split_size J a (by rw [hp]; exact ha); omega
    have HCW := Lib.hid (fun (W : World) (p : Option Addr) (n c : Nat) (hS : Strs W (.slice p n c) L) => containsW_any L p n c W hS hll hls)
    obtain ⟨q, hq⟩ : ∃ q, q = L.all (fun a => tokL a.data.toList) := ⟨_, rfl⟩
    rw [← hq] at HCW
    have HQW : q = true → wordsP fs = some (L.map lowB) := fun h => by rw [hWP, if_pos (by rw [← hq]; exact h)]
    have HQF : q = false → wordsP fs = none := fun h => by rw [hWP, if_neg (by rw [← hq, h]; decide)]
    have HLW := Lib.hid (fun (a : ByteArray) (ha : a ∈ L) (W : World) => olower_any a (hls a ha) W)
    have HLL := Lib.hid hll
    clear hJ hhas hl hs hs2 hj hp h hls hq hll hWP
    cases q with
    | false =>
      rw [HQF rfl]
      simp only [Bool.not_false, Bool.false_eq_true, if_false, Option.isSome_none, Option.getD_none] at HCW ⊢
      clear HQF HQW
      go_enter Tryz.func70, Tryz.ntmps70
      go_wp2_with (go_at_call 110; refine HC.out.mono ?_; rintro e1 w1 ⟨rfl, hb⟩; have HB1 := Lib.hid hb; clear hb)
      refine (HSP.out _).mono ?_
      rintro e2 w2 ⟨v2, rfl, ho, hb⟩
      have HB2 := Lib.hid (HB1.out.trans (hb.mono HB1.out.size))
      obtain ⟨p2, c2, rfl⟩ := OwnS.shape ho
      have HS2 := Lib.hid (OwnS.strs ho)
      clear ho hb
      go_wp2_with fail
      refine (HCW.out _ _ _ _ HS2.out).mono ?_
      rintro e3 w3 ⟨rfl, hb⟩
      have HB3 := Lib.hid (HB2.out.trans (hb.mono HB2.out.size))
      clear hb
      go_wp2_with fail
      go_ret2
      exact ⟨_, rfl, OwnS.start _ _, HB3.out⟩
    | true =>
      rw [HQW rfl]
      simp only [Bool.not_true, if_true, Option.isSome_some, Option.getD_some] at HCW ⊢
      clear HQF HQW
      obtain ⟨n, hn⟩ : ∃ n, n = L.length := ⟨_, rfl⟩
      have HN := Lib.hid hn
      have hn6 : n ≤ 1000000 := by have h1 := HLL.out; omega
      go_enter Tryz.func70, Tryz.ntmps70
      go_wp2_with (go_at_call 110; refine HC.out.mono ?_; rintro e1 w1 ⟨rfl, hb⟩; have HB1 := Lib.hid hb; clear hb)
      refine (HSP.out _).mono ?_
      rintro e2 w2 ⟨v2, rfl, ho, hb⟩
      have HB2 := Lib.hid (HB1.out.trans (hb.mono HB1.out.size))
      obtain ⟨p2, c2, rfl⟩ := OwnS.shape ho
      have HO2 := Lib.hid (ho.lower HB1.out.size)
      clear ho hb
      rw [← hn] at HO2 ⊢
      clear hn
      go_wp2_with fail
      refine (HCW.out _ _ _ _ HO2.out.strs).mono ?_
      rintro e3 w3 ⟨rfl, hb⟩
      have HB3 := Lib.hid (HB2.out.trans (hb.mono HB2.out.size))
      have HO3 := Lib.hid (HO2.out.call hb)
      clear hb
      go_wp2_with fail
      go_loopw [28] (fun i wr => ∃ k : Nat, k ≤ n ∧ i = .int .i64 k ∧ OwnS wr w.heap.size (.slice p2 n c2) (lowK k L) ∧ Below w.heap.size w wr) (fun i _ => n - (intOf i).toNat)
      case atStart => exact ⟨0, Nat.zero_le _, rfl, by rw [lowK_zero]; exact HO3.out, HB3.out⟩
      case round =>
        obtain ⟨k, hk, rfl, ho, hb⟩ := hrel
        have HB := Lib.hid hb
        have HO := Lib.hid ho
        clear hb ho
        by_cases hlt : k < n
        · have hk1 : decide ((k : Int) < (n : Int)) = true := decide_eq_true (by omega)
          have hlk : (lowK k L).length = n := by rw [lowK_len, HN.out]
          obtain ⟨g, cap, cur, hv, hBg, hg, -, -⟩ := HO.out.block (by omega)
          injection hv with e1 e2 e3
          subst e1 e3
          clear e2 hg cur
          have hkL : k < L.length := by rw [← HN.out]; exact hlt
          have c0 : wr.cell? ⟨g, k, none⟩ = some (.string (L[k]'hkL)) := by
            have h1 := OwnS.cell (l := lowK k L) (cap := c2) (by rw [hlk]; exact HO.out) k (by omega)
            rw [lowK_get hkL] at h1
            exact h1
          obtain ⟨a, ha⟩ : ∃ a, a = L[k]'hkL := ⟨_, rfl⟩
          rw [← ha] at c0
          have HQ := Lib.hid (HLW.out a (by rw [ha]; exact List.getElem_mem _) wr)
          have HA := Lib.hid ha
          have HBG := Lib.hid hBg
          have HK := Lib.hid hkL
          have HLK := Lib.hid hlk
          have hk0 : (0 : Int) ≤ (k : Int) := by omega
          have hki : (k : Int) < (n : Int) := by omega
          clear ha hlk hBg
          go_wp2_with (go_at_call 114; refine HQ.out.mono ?_; rintro e4 w4 ⟨rfl, hb⟩; have HB4 := Lib.hid (HB.out.trans (hb.mono HB.out.size)); have HO4 := Lib.hid (HO.out.call hb); clear hb; have f4 := ownS_froz HO4.out (by rw [HLK.out]; omega) k; have c4 := OwnS.cell (l := lowK k L) (cap := c2) (by rw [HLK.out]; exact HO4.out) k (by rw [HLK.out]; exact hlt))
          go_roundw
          case rel =>
            refine ⟨k + 1, hlt, by go_num, ?_, HB4.out.setCell (p := ⟨g, k, none⟩) HBG.out _⟩
            have h1 := OwnS.set (l := lowK k L) (cap := c2) (by rw [HLK.out]; exact HO4.out) k (by rw [HLK.out]; exact hlt) (lowB a)
            have h2 : (lowK k L).set k (lowB a) = lowK (k + 1) L := by rw [HA.out]; exact lowK_set HK.out
            rw [h2, lowK_len, ← HN.out] at h1
            exact h1
          case measure => simp [intOf]; omega
        · have hk1 : decide ((k : Int) < (n : Int)) = false := decide_eq_false (by omega)
          have hkn : k = n := by omega
          have HF : Hid (OwnS wr w.heap.size (.slice p2 n c2) (L.map lowB)) := by
            have := HO.out
            rw [hkn, HN.out, lowK_all] at this
            rw [HN.out]
            exact this
          clear hkn
          go_wp2_with fail
          go_ret2
          exact ⟨_, rfl, HF.out, HB.out⟩
theorem str_beq (a b : ByteArray) : (a.toList == b.toList) = decide (a = b) := by
  rw [Bool.eq_iff_iff, beq_iff_eq, decide_eq_true_eq]
  constructor
  · intro h
    rw [ByteArray.toList_eq, ByteArray.toList_eq] at h
    exact ext_list h
  · intro h; rw [h]
set_option maxRecDepth 100000 in
set_option maxHeartbeats 1000000 in
theorem indexC_any (x : ByteArray) (names : List ByteArray) (p : Option Addr) (n c : Nat) (w : World) (hS : Strs w (.slice p n c) names) (hl : names.length ≤ 1000000) :
    Calls Tryz.prog 115 #[.slice p n c, .string x] w fun e w' => ∃ k : Int, e = .returned (.int .i64 k) ∧ ((hasB names x = true ∧ 0 ≤ k) ∨ (hasB names x = false ∧ k = -1)) ∧ w = w' := by
  obtain ⟨p', c', hv, hc⟩ := hS
  injection hv with e1 e2 e3
  subst e1 e3
  have HC := Lib.hid hc
  have HN := Lib.hid e2
  rw [← e2] at hl
  clear hc e2
  go_enter Tryz.func115, Tryz.ntmps115
  go_wp2_with fail
  go_loop [8] (fun i => ∃ k : Nat, k ≤ n ∧ i = .int .i64 k ∧ hasB (names.take k) x = false) (fun i => n - (intOf i).toNat)
  case atStart => exact ⟨0, Nat.zero_le _, rfl, rfl⟩
  case round =>
    obtain ⟨k, hk, rfl, hp⟩ := hrel
    have HP := Lib.hid hp
    clear hp
    by_cases hlt : k < n
    · have hk1 : decide ((k : Int) < (n : Int)) = true := decide_eq_true (by omega)
      obtain ⟨b, off, hp, c0⟩ := HC.out k (by rw [← HN.out]; exact hlt)
      subst hp
      obtain ⟨a, ha⟩ : ∃ a, a = names[k]'(by rw [← HN.out]; exact hlt) := ⟨_, rfl⟩
      rw [← ha] at c0
      have ham : a ∈ names := by rw [ha]; exact List.getElem_mem _
      have HT : Hid (hasB (names.take (k + 1)) x = (hasB (names.take k) x || decide (a = x))) := by
        show _ = _
        unfold hasB
        rw [List.take_succ_eq_append_getElem (by rw [← HN.out]; exact hlt), List.any_append, ← ha]
        simp
      have HAM := Lib.hid ham
      have hk0 : (0 : Int) ≤ (k : Int) := by omega
      have hki : (k : Int) < (n : Int) := by omega
      clear ha ham
      by_cases hax : a = x
      · have HX := Lib.hid hax
        have h1 : (x.toList == a.toList) = true := by rw [str_beq]; exact decide_eq_true hax.symm
        clear hax
        go_wp2_with fail
        go_ret
        exact ⟨_, rfl, Or.inl ⟨List.any_eq_true.2 ⟨a, HAM.out, decide_eq_true HX.out⟩, by omega⟩, rfl⟩
      · have HX := Lib.hid hax
        have h1 : (x.toList == a.toList) = false := by rw [str_beq]; exact decide_eq_false (fun e => hax e.symm)
        clear hax
        go_wp2_with fail
        go_round
        case rel => exact ⟨k + 1, hlt, by go_num, by rw [HT.out, HP.out, decide_eq_false HX.out]; rfl⟩
        case measure => simp [intOf]; omega
    · have hk1 : decide ((k : Int) < (n : Int)) = false := decide_eq_false (by omega)
      have hkn : k = n := by omega
      have HF : Hid (hasB names x = false) := by
        show _ = _
        have := HP.out
        rw [hkn, HN.out, List.take_length] at this
        exact this
      clear hkn
      go_wp2_with fail
      go_ret
      exact ⟨_, rfl, Or.inr ⟨HF.out, rfl⟩, rfl⟩
set_option maxRecDepth 100000 in
theorem containsC_any (x : ByteArray) (names : List ByteArray) (p : Option Addr) (n c : Nat) (w : World) (hS : Strs w (.slice p n c) names) (hl : names.length ≤ 1000000) :
    Calls Tryz.prog 72 #[.slice p n c, .string x] w fun e w' => e = .returned (.bool (hasB names x)) ∧ w = w' := by
  have HI := Lib.hid (indexC_any x names p n c w hS hl)
  obtain ⟨v, hv⟩ : ∃ v, v = hasB names x := ⟨_, rfl⟩
  rw [← hv] at HI ⊢
  clear hS hl hv
  go_enter Tryz.func72, Tryz.ntmps72
  go_wp2_with fail
  refine HI.out.mono ?_
  rintro e' w' ⟨k, rfl, hk, rfl⟩
  have hd : Hid (v = decide (0 ≤ k)) := by
    show _ = _
    rcases hk with ⟨h1, h2⟩ | ⟨h1, h2⟩
    · rw [h1, decide_eq_true h2]
    · rw [h1, h2]; rfl
  clear hk
  go_wp2_with fail
  go_ret
  rw [hd.out]
  exact ⟨rfl, rfl⟩
set_option maxRecDepth 100000 in
theorem one_any (x : ByteArray) (names : List ByteArray) (p : Option Addr) (n c g : Nat) (w : World) (hS : Strs w (.slice p n c) names) (hl : names.length ≤ 1000000) (hg : w.cell? ⟨g, 0, none⟩ = some (.slice p n c)) :
    Calls Tryz.prog 71 #[.string x, .pointer (some ⟨g, 0, none⟩)] w fun e w' => e = .returned (.bool (hasB names x)) ∧ w = w' := by
  have HI := Lib.hid (containsC_any x names p n c w hS hl)
  clear hS hl
  go_enter Tryz.func71, Tryz.ntmps71
  go_wp2_with fail
  refine HI.out.mono ?_
  rintro e' w' ⟨rfl, rfl⟩
  go_wp2_with fail
  go_ret
  exact ⟨rfl, rfl⟩
set_option maxRecDepth 100000 in
set_option maxHeartbeats 4000000 in
theorem persists_any (k : Int) (fs : List Fd) (f : Value) (w : World) (h : Flds w f fs) (hl : fs.length ≤ 100000) (hs : ∀ g ∈ fs, g.1.size ≤ 1000000) (hs2 : ∀ g ∈ fs, g.2.size ≤ 1000000) (hj : (joinL (allB fs conB)).size ≤ 900000) :
    Calls Tryz.prog 29 #[.int .i64 k, f] w fun e w' => e = .returned (.bool (persP k fs)) ∧ Below w.heap.size w w' := by
  have HW := Lib.hid (words_any fs f w h hl hs hs2 hj)
  have hwl : ∀ L, wordsP fs = some L → L.length ≤ 1000000 := by
    intro L hL
    unfold wordsP at hL
    split at hL
    · cases hL
    · rename_i l hp
      split at hL
      · cases hL
        have h1 := split_len (joinL (allB fs conB))
        rw [hp] at h1
        simp only [Option.getD_some] at h1
        rw [List.length_map]
        omega
      · cases hL
  unfold persP
  clear h hl hs hs2 hj
  cases hp : wordsP fs with
  | none =>
    rw [hp] at HW
    simp only [Option.isSome_none, Option.getD_none, Bool.false_eq_true, if_false] at HW
    clear hwl hp
    go_enter Tryz.func29, Tryz.ntmps29
    go_wp2_with (go_at_call 70; refine HW.out.mono ?_)
    rintro e1 w1 ⟨v1, rfl, ho, hb⟩
    obtain ⟨p1, c1, rfl⟩ := OwnS.shape ho
    have HB := Lib.hid (hb.alloc hb.size (.cells #[.slice p1 0 c1] 63))
    clear ho hb
    go_wp2_with fail
    go_ret
    exact ⟨rfl, HB.out⟩
  | some L =>
    rw [hp] at HW
    have hll := hwl L hp
    dsimp only
    simp only [Option.isSome_some, Option.getD_some, if_true] at HW
    have HO := Lib.hid (fun (x : ByteArray) (p : Option Addr) (n c g : Nat) (W : World) (hS : Strs W (.slice p n c) L) (hg : W.cell? ⟨g, 0, none⟩ = some (.slice p n c)) => one_any x L p n c g W hS hll hg)
    obtain ⟨b1, hb1⟩ : ∃ b, b = hasB L closeB := ⟨_, rfl⟩
    obtain ⟨b2, hb2⟩ : ∃ b, b = hasB L keepB := ⟨_, rfl⟩
    obtain ⟨b3, hb3⟩ : ∃ b, b = decide (0 < k) := ⟨_, rfl⟩
    have H1 := Lib.hid (fun p n c g W hS hg => HO.out closeB p n c g W hS hg)
    have H2 := Lib.hid (fun p n c g W hS hg => HO.out keepB p n c g W hS hg)
    unfold closeB at H1 hb1 ⊢
    unfold keepB at H2 hb2 ⊢
    rw [← hb1] at H1 ⊢
    rw [← hb2] at H2 ⊢
    rw [← hb3]
    have k3 := hb3.symm
    clear hwl hp hll HO hb1 hb2 hb3
    cases b1 with
    | true =>
      go_enter Tryz.func29, Tryz.ntmps29
      go_wp2_with (go_at_call 70; refine HW.out.mono ?_)
      rintro e1 w1 ⟨v1, rfl, ho, hb⟩
      obtain ⟨p1, c1, rfl⟩ := OwnS.shape ho
      have HB := Lib.hid (hb.alloc hb.size (.cells #[.slice p1 L.length c1] 63))
      have HS := Lib.hid ((OwnS.alloc ho (.cells #[.slice p1 L.length c1] 63)).strs)
      have c0 := (Blk.new w1 #[.slice p1 L.length c1] 63).cell 0
      simp at c0
      clear ho hb
      go_wp2_with (first | (go_at_call 71; refine (H1.out _ _ _ _ _ HS.out (by simp [c0])).mono ?_; rintro e2 w2 ⟨rfl, rfl⟩))
      go_ret
      exact ⟨rfl, HB.out⟩
    | false =>
      cases b3 with
      | true =>
        go_enter Tryz.func29, Tryz.ntmps29
        go_wp2_with (go_at_call 70; refine HW.out.mono ?_)
        rintro e1 w1 ⟨v1, rfl, ho, hb⟩
        obtain ⟨p1, c1, rfl⟩ := OwnS.shape ho
        have HB := Lib.hid (hb.alloc hb.size (.cells #[.slice p1 L.length c1] 63))
        have HS := Lib.hid ((OwnS.alloc ho (.cells #[.slice p1 L.length c1] 63)).strs)
        have c0 := (Blk.new w1 #[.slice p1 L.length c1] 63).cell 0
        simp at c0
        clear ho hb
        go_wp2_with (first | (go_at_call 71; refine (H1.out _ _ _ _ _ HS.out (by simp [c0])).mono ?_; rintro e2 w2 ⟨rfl, rfl⟩))
        go_ret
        exact ⟨rfl, HB.out⟩
      | false =>
        go_enter Tryz.func29, Tryz.ntmps29
        go_wp2_with (go_at_call 70; refine HW.out.mono ?_)
        rintro e1 w1 ⟨v1, rfl, ho, hb⟩
        obtain ⟨p1, c1, rfl⟩ := OwnS.shape ho
        have HB := Lib.hid (hb.alloc hb.size (.cells #[.slice p1 L.length c1] 63))
        have HS := Lib.hid ((OwnS.alloc ho (.cells #[.slice p1 L.length c1] 63)).strs)
        have c0 := (Blk.new w1 #[.slice p1 L.length c1] 63).cell 0
        simp at c0
        clear ho hb
        go_wp2_with fail
        refine (H1.out _ _ _ _ _ HS.out (by simp [c0])).mono ?_
        rintro e2 w2 ⟨rfl, rfl⟩
        go_wp2_with fail
        refine (H2.out _ _ _ _ _ HS.out (by simp [c0])).mono ?_
        rintro e3 w3 ⟨rfl, rfl⟩
        go_wp2_with fail
        go_ret
        exact ⟨by cases b2 <;> rfl, HB.out⟩
end Go.Proofs.YtcpjkemjpgggcaaGreatDoor

/- Texts packed for one claim, 41 of 52: HostV. -/
import Derived.Test.YtaojfiegnebbdaaGreatDoorMbkQ23
import Derived.Test.YtaojfiegnebbdaaGreatDoorMbkQ24
import Derived.OwnWalk
set_option maxRecDepth 100000
set_option maxHeartbeats 16000000
set_option linter.unusedSimpArgs false
set_option linter.unusedVariables false
-- HostV
namespace Go.Proofs.YtaojfiegnebbdaaGreatDoor
open Go.RowKit
theorem regS_zero (c : UInt8) (t : List UInt8) : regS 0 (c :: t) = if c = 37 then regS 2 t else if plainB c = true then regS 0 t else false := by rw [regS]
theorem regS_succ (k : Nat) (c : UInt8) (t : List UInt8) : regS (k + 1) (c :: t) = if hxB c = true then regS k t else false := by rw [regS]
theorem regS_end (k : Nat) : regS k [] = (k == 0) := by rw [regS]
theorem registered_any (s : ByteArray) (hs : s.size ≤ 1000000) (w : World) : Calls Tryz.prog 123 #[.string s] w fun e w' => e = .returned (.bool (regP s.data.toList)) ∧ Below w.heap.size w w' := by
 obtain ⟨R, hR⟩ : ∃ R, R = regS 0 s.data.toList := ⟨_, rfl⟩
 have hP : regP s.data.toList = (!s.data.toList.isEmpty && R) := by unfold regP; rw [hR]
 have HP := lH hP
 have HR := lH hR
 have hie := isEmpty_list s
 obtain ⟨E, hE⟩ : ∃ E, E = s.toList.isEmpty := ⟨_, rfl⟩
 have he : s.toList.isEmpty = E := hE.symm
 rw [← hie, he] at HP
 clear hR hP hie hE
 go_enter Tryz.func123, Tryz.ntmps123
 go_wp2_with fail
 go_loopw [3] (fun u3 wr => ∃ (k L : Nat), u3 = .int .i64 (L : Int) ∧ L ≤ 2 ∧ k ≤ s.size ∧ wr.heap[w.heap.size]? = some (.stringIter s k) ∧ Below w.heap.size w wr ∧ regS L (s.data.toList.drop k) = R) (fun _ wr => s.size - wr.iterPos w.heap.size)
 case atStart => exact ⟨0, 0, rfl, by omega, by omega, World.iter_heap w s 0, (Below.refl _ _).alloc (nR _) _, HR.out.symm⟩
 case round =>
  obtain ⟨k, L, rfl, hL, hp, hit, hbw, hrg⟩ := hrel
  have HIT := lH hit
  have HBW := lH hbw
  have HRG := lH hrg
  have hsz : w.heap.size < wr.heap.size := (Array.getElem?_eq_some_iff.1 hit).1
  clear hit hbw hrg
  by_cases hlt : k < s.size
  ·obtain ⟨r, wd, hr, hwd, hr0, hr1, hwd1, hq⟩ := rune_at s k hlt
   have hnx : ∀ ty, (Instr.next (.pointer (some ⟨w.heap.size, 0, none⟩)) true ty).run Tryz.prog wr = .ok (.tuple #[.bool true, .int .i64 k, .int .i32 r]) (wr.iterAt w.heap.size s (k + wd)) := fun ty => by
    rw [Lib.run_next_any_at wr w.heap.size s k ty HIT.out hlt, hr, hwd]
   have HIT2 := lH (Lib.iterAt_heap wr w.heap.size s k (k + wd) HIT.out)
   have HBW2 := lH (Lib.below_iterAt HBW.out (k := w.heap.size) (nR _) s (k + wd))
   obtain ⟨c, hc, hdr⟩ := bt_drop s k hlt
   have hgc : s[k]'hlt = c := by
    rw [bt_get s k hlt] at hc
    exact UInt8.toNat_inj.1 (by omega)
   rw [hgc] at hq
   have hrg := HRG.out
   rw [hdr] at hrg
   have HX := lH (fun (W : World) => hex_run r hr0 hr1 W)
   have HPL := lH (fun (W : World) => plain_run r hr0 hr1 W)
   obtain ⟨hx, hhx⟩ : ∃ b, b = hexI r := ⟨_, rfl⟩
   obtain ⟨pl, hpl⟩ : ∃ b, b = plainI r := ⟨_, rfl⟩
   rw [← hhx] at HX
   rw [← hpl] at HPL
   -- what the octet says is what the rune says
   have hxc : hxB c = hx := by
    rw [hhx]
    rcases hq with ⟨h1, _, _⟩ | ⟨h1, h2⟩
    ·unfold hxB; rw [h1]
    ·rw [hex_high r h1]; exact hex_high _ (by omega)
   have hpc : plainB c = pl := by
    rw [hpl]
    rcases hq with ⟨h1, _, _⟩ | ⟨h1, h2⟩
    ·unfold plainB; rw [h1]
    ·rw [sign_high r h1]; exact sign_high _ (by omega)
   have h37 : (c = 37) = (r = 37) := by
    rcases hq with ⟨h1, _, _⟩ | ⟨h1, h2⟩
    ·rw [h1]
     apply propext
     constructor
     ·rintro rfl; rfl
     ·intro h; exact UInt8.toNat_inj.1 (by have : (37 : UInt8).toNat = 37 := rfl
                                           omega)
    ·apply propext
     constructor
     ·rintro rfl
      have : (37 : UInt8).toNat = 37 := rfl
      omega
     ·intro h; omega
   have hw1 : (hx = true ∨ pl = true ∨ r = 37) → wd = 1 := by
    rcases hq with ⟨_, h1, _⟩ | ⟨h1, _⟩
    ·exact fun _ => h1
    ·rintro (h | h | h)
     ·rw [hhx, hex_high r h1] at h; cases h
     ·rw [hpl, sign_high r h1] at h; cases h
     ·omega
   have HW1 := lH hw1
   have HWD := lH hwd1
   cases L with
   | succ m =>
     rw [regS_succ, hxc] at hrg
     have HRG2 := lH hrg
     have hm1 : (m : Int) ≤ 1 := by omega
     have hpos : decide ((0 : Int) < ((m + 1 : Nat) : Int)) = true := dT (by omega)
     clear hr hwd hq hc hdr hgc hrg hhx hpl hxc hpc h37 hw1
     cases hx with
     | true =>
       obtain rfl := HW1.out (Or.inl rfl)
       go_wp2_with (go_at_call 154; refine (HX.out _).mono ?_; rintro e1 w1 ⟨rfl, h1⟩; subst h1)
       go_roundw
       case rel => exact ⟨k + 1, m, by go_num, by omega, by omega, HIT2.out, HBW2.out, HRG2.out⟩
       case measure =>
        simp only [World.iterPos, HIT2.out, HIT.out]
        omega
     | false =>
       have HRF : Hid (R = false) := HRG2.out.symm
       go_wp2_with (go_at_call 154; refine (HX.out _).mono ?_; rintro e1 w1 ⟨rfl, h1⟩; subst h1)
       go_ret
       rw [HP.out, HRF.out, Bool.and_false]
       exact ⟨rfl, HBW2.out⟩
   | zero =>
     rw [regS_zero, hpc] at hrg
     simp only [h37] at hrg
     have HRG2 := lH hrg
     clear hr hwd hq hc hdr hgc hrg hhx hpl hxc hpc h37 hw1
     by_cases h37 : r = 37
     ·have HR3 : Hid (regS 2 (s.data.toList.drop (k + 1)) = R) := by
       have h := HRG2.out
       rw [if_pos h37] at h
       exact h
      obtain rfl := HW1.out (Or.inr (Or.inr h37))
      subst h37
      go_wp2_with fail
      go_roundw
      case rel => exact ⟨k + 1, 2, rfl, by omega, by omega, HIT2.out, HBW2.out, HR3.out⟩
      case measure =>
       simp only [World.iterPos, HIT2.out, HIT.out]
       omega
     ·have n37 : (r == 37) = false := by rw [beq_eq_false_iff_ne]; exact h37
      have HR3 : Hid ((if pl = true then regS 0 (s.data.toList.drop (k + 1)) else false) = R) := by
       have h := HRG2.out
       rw [if_neg h37] at h
       exact h
      clear h37
      cases pl with
      | true =>
        obtain rfl := HW1.out (Or.inr (Or.inl rfl))
        go_wp2_with (go_at_call 155; refine (HPL.out _).mono ?_; rintro e1 w1 ⟨rfl, h1⟩; subst h1)
        go_roundw
        case rel => exact ⟨k + 1, 0, rfl, by omega, by omega, HIT2.out, HBW2.out, HR3.out⟩
        case measure =>
         simp only [World.iterPos, HIT2.out, HIT.out]
         omega
      | false =>
        have HRF : Hid (R = false) := HR3.out.symm
        go_wp2_with (go_at_call 155; refine (HPL.out _).mono ?_; rintro e1 w1 ⟨rfl, h1⟩; subst h1)
        go_ret
        rw [HP.out, HRF.out, Bool.and_false]
        exact ⟨rfl, HBW2.out⟩
  ·have hnx : ∀ ty, (Instr.next (.pointer (some ⟨w.heap.size, 0, none⟩)) true ty).run Tryz.prog wr = _ := fun ty => Lib.run_next_end_at wr w.heap.size s k ty HIT.out hlt
   have hkn : k = s.size := by omega
   have HRL : Hid (R = (L == 0)) := by
    show R = _
    rw [← HRG.out, hkn, List.drop_of_length_le (by simp), regS_end]
   have hli : ((L : Int) == 0) = (L == 0) := by rw [Bool.eq_iff_iff, beq_iff_eq, beq_iff_eq]; omega
   obtain ⟨z, hz⟩ : ∃ z, z = (L == 0) := ⟨_, rfl⟩
   rw [← hz] at HRL hli
   have hz2 : (L == 0) = z := hz.symm
   clear hkn hz
   cases E
   all_goals
    go_wp2_with fail
    go_ret
    rw [HP.out, HRL.out]
    exact ⟨rfl, HBW.out⟩
theorem trimP_one (c : UInt8) (t : List UInt8) : Lib.trimPrefix (c :: t) [c] = t ∧ Lib.hasPrefix (c :: t) [c] = true := by
 have h : Lib.hasPrefix (c :: t) [c] = true := by simp [Lib.hasPrefix, List.isPrefixOf]
 refine ⟨?_, h⟩
 unfold Lib.trimPrefix
 rw [if_pos h]
 rfl
theorem hasS_one (l : List UInt8) (c : UInt8) : Lib.hasSuffix l [c] = (l.getLast? == some c) := by
 rw [Bool.eq_iff_iff, beq_iff_eq]
 unfold Lib.hasSuffix
 rw [List.isSuffixOf_iff_suffix]
 constructor
 ·rintro ⟨t, rfl⟩
  simp
 ·intro h
  exact ⟨l.dropLast, last_app h⟩
def litV (ok : Bool) (l : List UInt8) : Bool := ok && l.all litB
theorem all_take_false {l : List UInt8} {k j : Nat} (hk : k < l.length) (hkj : k < j) (h : litB l[k] = false) : (l.take j).all litB = false := by
 rw [List.all_eq_false]
 refine ⟨l[k], ?_, by rw [h]; decide⟩
 have : (l.take j)[k]? = some l[k] := by rw [List.getElem?_take, if_pos hkj, List.getElem?_eq_getElem hk]
 exact List.mem_of_getElem? this
theorem literal_any (s : ByteArray) (hs : s.size ≤ 1000000) (w : World) : Calls Tryz.prog 124 #[.string s] w fun e w' => e = .returned (.bool (litP s.data.toList)) ∧ Below w.heap.size w w' := by
 have HCP := lH (Tryz.strings_CutPrefix s ⟨#[91]⟩ w)
 obtain ⟨ok, hok⟩ : ∃ b, b = Lib.hasPrefix s.data.toList [91] := ⟨_, rfl⟩
 obtain ⟨A, hA⟩ : ∃ A : ByteArray, A = ⟨(Lib.trimPrefix s.data.toList [91]).toArray⟩ := ⟨_, rfl⟩
 have e1 : (⟨#[91]⟩ : ByteArray).data.toList = [91] := rfl
 rw [e1, ← hok, ← hA] at HCP
 have hAd : A.data.toList = Lib.trimPrefix s.data.toList [91] := by rw [hA]
 have hAs : A.size ≤ s.size := by
  rw [Lib.size_eq, Lib.size_eq, hAd]
  unfold Lib.trimPrefix
  split
  ·rw [List.length_drop]; omega
  ·exact nR _
 have HCS := lH (Tryz.strings_CutSuffix A ⟨#[93]⟩ w (by omega))
 obtain ⟨en, hen⟩ : ∃ b, b = Lib.hasSuffix A.data.toList [93] := ⟨_, rfl⟩
 obtain ⟨I, hI⟩ : ∃ A' : ByteArray, A' = ⟨(Lib.trimSuffix A.data.toList [93]).toArray⟩ := ⟨_, rfl⟩
 have e2 : (⟨#[93]⟩ : ByteArray).data.toList = [93] := rfl
 rw [e2, ← hen, ← hI] at HCS
 have hId : I.data.toList = Lib.trimSuffix A.data.toList [93] := by rw [hI]
 have hIs : I.size ≤ A.size := by
  rw [Lib.size_eq, Lib.size_eq, hId]
  unfold Lib.trimSuffix
  split
  ·rw [List.length_take]; omega
  ·exact nR _
 have hP : litP s.data.toList = (litV ok I.data.toList && (en && !I.toList.isEmpty)) := by
  rw [isEmpty_list]
  unfold litV
  cases hl : s.data.toList with
  | nil =>
    rw [hl] at hok
    have : ok = false := hok
    rw [this]
    rfl
  | cons c t =>
    unfold litP
    simp only
    by_cases hc : c = 91
    ·rw [hl, hc] at hok hAd
     rw [(trimP_one 91 t).2] at hok
     rw [(trimP_one 91 t).1] at hAd
     rw [hAd, hasS_one] at hen
     rw [hc, hok, ← hen]
     cases en with
     | false => simp
     | true =>
       have h2 : I.data.toList = t.dropLast := by
        rw [hId, hAd]
        unfold Lib.trimSuffix
        rw [hasS_one, ← hen, if_pos rfl]
        rw [List.dropLast_eq_take]
        rfl
       rw [h2]
       simp [Bool.and_comm]
    ·have h0 : ok = false := by
      rw [hok, hl]
      simp [Lib.hasPrefix, List.isPrefixOf]
      exact fun h => hc h.symm
     have h1 : (c == 91) = false := by rw [beq_eq_false_iff_ne]; exact hc
     rw [h0, h1]
     rfl
 have HP := lH hP
 obtain ⟨E, hE⟩ : ∃ E, E = I.toList.isEmpty := ⟨_, rfl⟩
 have he : I.toList.isEmpty = E := hE.symm
 rw [he] at HP
 have hIi : I.size ≤ 1000000 := by omega
 clear hok hA e1 hAd hAs hen hI e2 hId hIs hP hE hs
 go_enter Tryz.func124, Tryz.ntmps124
 go_wp2_with (first
  | (go_at_call 156; refine HCP.out.mono ?_; rintro e1 w1 ⟨rfl, h1⟩; subst h1)
  | (go_at_call 157; refine HCS.out.mono ?_; rintro e2 w2 ⟨rfl, h2⟩; subst h2))
 go_loopw [4] (fun u4 wr => ∃ (k : Nat) (q : Bool), u4 = .bool q ∧ q = litV ok (I.data.toList.take k) ∧ wr.heap[w2.heap.size]? = some (.stringIter I k) ∧ Below w2.heap.size w2 wr) (fun _ wr => I.size - wr.iterPos w2.heap.size)
 case atStart => exact ⟨0, _, rfl, by unfold litV; simp, World.iter_heap w2 I 0, (Below.refl _ _).alloc (nR _) _⟩
 case round =>
  obtain ⟨k, q, rfl, hq, hit, hbw⟩ := hrel
  have HIT := lH hit
  have HBW := lH hbw
  have HQ := lH hq
  have hsz : w2.heap.size < wr.heap.size := (Array.getElem?_eq_some_iff.1 hit).1
  clear hit hbw hq
  by_cases hlt : k < I.size
  ·obtain ⟨r, wd, hr, hwd, hr0, hr1, hwd1, hcs⟩ := rune_at I k hlt
   have hnx : ∀ ty, (Instr.next (.pointer (some ⟨w2.heap.size, 0, none⟩)) true ty).run Tryz.prog wr = .ok (.tuple #[.bool true, .int .i64 k, .int .i32 r]) (wr.iterAt w2.heap.size I (k + wd)) := fun ty => by
    rw [Lib.run_next_any_at wr w2.heap.size I k ty HIT.out hlt, hr, hwd]
   have HIT2 := lH (Lib.iterAt_heap wr w2.heap.size I k (k + wd) HIT.out)
   have HBW2 := lH (Lib.below_iterAt HBW.out (k := w2.heap.size) (nR _) I (k + wd))
   have HX := lH (fun (W : World) => hex_run r hr0 hr1 W)
   obtain ⟨hx, hhx⟩ : ∃ b, b = hexI r := ⟨_, rfl⟩
   rw [← hhx] at HX
   have hlr : litB (I[k]'hlt) = (hx || (decide (r = 58) || decide (r = 46))) := by
    have e : litI r = (hx || (decide (r = 58) || decide (r = 46))) := by
     unfold litI
     rw [hhx]
     congr 1
     rw [Bool.eq_iff_iff, Bool.or_eq_true, decide_eq_true_eq, decide_eq_true_eq, decide_eq_true_eq]
    rw [← e]
    rcases hcs with ⟨h1, _, _⟩ | ⟨h1, h2⟩
    ·unfold litB; rw [h1]
    ·unfold litB litI
     rw [hex_high r h1, hex_high _ (by omega)]
     rw [dF (by omega), dF (by omega)]
   have hqn : litV ok (I.data.toList.take (k + wd)) = (q && (hx || (decide (r = 58) || decide (r = 46)))) := by
    rw [HQ.out, ← hlr]
    unfold litV
    cases hlb : litB (I[k]'hlt) with
    | false =>
      rw [all_take_false (l := I.data.toList) (k := k) (by simpa using hlt) (by omega) hlb]
      simp
    | true =>
      rcases hcs with ⟨_, h1, _⟩ | ⟨h1, h2⟩
      ·rw [h1, take_snoc I k hlt, List.all_append]
       simp [hlb, Bool.and_assoc]
      ·exfalso
       rw [hlr] at hlb
       rw [hhx, hex_high r h1, dF (by omega), dF (by omega)] at hlb
       cases hlb
   have HQN := lH hqn
   have HWD1 := lH hwd1
   obtain ⟨d58, hd58⟩ : ∃ b, b = decide (r = 58) := ⟨_, rfl⟩
   obtain ⟨d46, hd46⟩ : ∃ b, b = decide (r = 46) := ⟨_, rfl⟩
   rw [← hd58, ← hd46] at HQN
   have b58 : (r == 58) = d58 := by rw [hd58]; rfl
   have b46 : (r == 46) = d46 := by rw [hd46]; rfl
   clear hr hwd hcs hhx hlr hqn hwd1 hd58 hd46
   cases q <;> cases hx <;> cases d58
   all_goals
    go_wp2_with (go_at_call 154; refine (HX.out _).mono ?_; rintro e1 w1 ⟨rfl, h1⟩; subst h1)
    go_roundw
    case rel => exact ⟨k + wd, _, rfl, HQN.out.symm, HIT2.out, HBW2.out⟩
    case measure =>
     have h1 := HWD1.out
     simp only [World.iterPos, HIT2.out, HIT.out]
     omega
  ·have hnx : ∀ ty, (Instr.next (.pointer (some ⟨w2.heap.size, 0, none⟩)) true ty).run Tryz.prog wr = _ := fun ty => Lib.run_next_end_at wr w2.heap.size I k ty HIT.out hlt
   have HQ2 : Hid (litV ok I.data.toList = q) := by show _ = q; rw [HQ.out, List.take_of_length_le (by simp; omega)]
   cases q <;> cases en <;> cases E
   all_goals
    go_wp2_with fail
    go_ret
    rw [HP.out, HQ2.out]
    exact ⟨rfl, HBW.out⟩
theorem last_place (s : ByteArray) (c : UInt8) : (Lib.lastIndexByte s c.toNat = -1 ∧ ∀ k : Nat, s.data.toList[k]? ≠ some c) ∨ ∃ i : Nat, i < s.size ∧ Lib.lastIndexByte s c.toNat = i ∧ s.data.toList[i]? = some c ∧ ∀ k : Nat, i < k → s.data.toList[k]? ≠ some c := by
 have key : ∀ j, j < s.size → (((s.data[j]!).toNat : Int) = (c.toNat : Int) ↔ s.data.toList[j]? = some c) := by
  intro j hj
  have h1 : j < s.data.size := hj
  rw [getElem!_pos s.data j h1, Array.getElem?_toList, Array.getElem?_eq_getElem h1]
  constructor
  ·intro h
   rw [UInt8.toNat_inj.1 (by omega : (s.data[j]).toNat = c.toNat)]
  ·intro h
   rw [Option.some.inj h]
 have out : ∀ j, ¬ j < s.size → s.data.toList[j]? ≠ some c := by
  intro j hj h
  rw [List.getElem?_eq_none (by have : s.data.toList.length = s.size := rfl
                                omega)] at h
  cases h
 rcases Lib.lastIndexByte_spec s (c.toNat : Int) with ⟨h1, h2⟩ | ⟨i, h0, h1, h2, h3⟩
 ·refine Or.inl ⟨h1, fun k => ?_⟩
  by_cases hk : k < s.size
  ·exact fun h => h2 k hk ((key k hk).2 h)
  ·exact out k hk
 ·refine Or.inr ⟨i, h0, h1, (key i h0).1 h2, fun k hik => ?_⟩
  by_cases hk : k < s.size
  ·exact fun h => h3 k hik hk ((key k hk).2 h)
  ·exact out k hk
theorem first_place (l : List UInt8) (c : UInt8) : (Lib.indexByte l c = -1 ∧ ∀ k : Nat, l[k]? ≠ some c) ∨ ∃ j : Nat, Lib.indexByte l c = j ∧ l[j]? = some c ∧ ∀ k : Nat, k < j → l[k]? ≠ some c := by
 by_cases h : Lib.indexByte l c = -1
 ·exact Or.inl ⟨h, Lib.indexByte_none h⟩
 ·have h0 : 0 ≤ Lib.indexByte l c := by
   have := Lib.indexByte_ge l c
   omega
  obtain ⟨o, ho⟩ : ∃ o : Nat, Lib.indexByte l c = o := ⟨(Lib.indexByte l c).toNat, by omega⟩
  exact Or.inr ⟨o, ho, (Lib.indexByte_some ho).1, (Lib.indexByte_some ho).2⟩
theorem hcut_any (s : ByteArray) (hs : s.size ≤ 1000000) (I J : Int) (hI : Lib.lastIndexByte s 58 = I) (hJ : Lib.indexByte s.data.toList 93 = J) (w : World) :
 Calls Tryz.prog 122 #[.string s] w fun e w' => e = .returned (if I < J ∨ I < 0 then .tuple #[.string s, .string ⟨#[]⟩, .bool false] else .tuple #[.string (s.extract 0 I.toNat), .string (s.extract (I.toNat + 1) s.size), .bool true]) ∧ Below w.heap.size w w' := by
 have h58 : ((58 : UInt8).toNat : Int) = 58 := rfl
 have hlast := last_place s 58
 rw [h58, hI] at hlast
 have HL := lH (Tryz.strings_LastIndexByte s 58 (by omega) w)
 rw [hI] at HL
 have HF := lH (fun (W : World) => Tryz.strings_IndexByte s 93 W)
 have e93 : (93 : Int).toNat.toUInt8 = 93 := rfl
 rw [e93, hJ] at HF
 clear hI hJ h58 e93
 by_cases h1 : I < J
 ·have h := Or.inl (b := I < 0) h1
  rw [if_pos h]
  have d1 : decide (I < J) = true := dT h1
  clear h h1 hlast
  go_enter Tryz.func122, Tryz.ntmps122
  go_wp2_with (first
   | (go_at_call 152; refine HL.out.mono ?_; rintro e1 w1 ⟨rfl, h1⟩; subst h1)
   | (go_at_call 153; refine (HF.out _).mono ?_; rintro e2 w2 ⟨rfl, h2⟩; subst h2))
  go_ret3
  exact ⟨rfl, Below.refl _ _⟩
 ·have d1 : decide (I < J) = false := dF h1
  by_cases h2 : I < 0
  ·rw [if_pos (Or.inr h2)]
   have d2 : decide (I < 0) = true := dT h2
   clear h1 h2 hlast
   go_enter Tryz.func122, Tryz.ntmps122
   go_wp2_with (first
    | (go_at_call 152; refine HL.out.mono ?_; rintro e1 w1 ⟨rfl, h1⟩; subst h1)
    | (go_at_call 153; refine (HF.out _).mono ?_; rintro e2 w2 ⟨rfl, h2⟩; subst h2))
   go_ret3
   exact ⟨rfl, Below.refl _ _⟩
  ·rw [if_neg (fun h => h.elim h1 h2)]
   have d2 : decide (I < 0) = false := dF h2
   obtain ⟨i, rfl, hi⟩ : ∃ i : Nat, I = i ∧ i < s.size := by
    rcases hlast with ⟨h, _⟩ | ⟨i, h, h', _⟩
    ·omega
    ·exact ⟨i, h', h⟩
   rw [Int.toNat_natCast]
   obtain ⟨X, hX⟩ : ∃ X, X = s.extract 0 i := ⟨_, rfl⟩
   obtain ⟨Y, hY⟩ : ∃ Y, Y = s.extract (i + 1) s.size := ⟨_, rfl⟩
   have hsl : ∀ V : World, (Instr.slice 9 (.string s) none (some (.int .i64 (i : Int))) none).run Tryz.prog V = .ok (.string X) V := fun V => by
    rw [run_slice_string_h V 9 s Tryz.underlying9 .i64 (i : Int) (by omega) (by omega), Int.toNat_natCast, hX]
   have hsr : ∀ V : World, (Instr.slice 9 (.string s) (some (.int .i64 ((i : Int) + 1))) none none).run Tryz.prog V = .ok (.string Y) V := fun V => by
    rw [run_slice_string_l V 9 s Tryz.underlying9 .i64 ((i : Int) + 1) (by omega) (by omega), show ((i : Int) + 1).toNat = i + 1 by omega, hY]
   have hmod : ((i : Int) + 1 + 9223372036854775808) % 18446744073709551616 - 9223372036854775808 = (i : Int) + 1 := by omega
   rw [← hX, ← hY]
   clear h1 h2 hlast hX hY
   go_enter Tryz.func122, Tryz.ntmps122
   go_wp2_with (first
    | (go_at_call 152; refine HL.out.mono ?_; rintro e1 w1 ⟨rfl, h1⟩; subst h1)
    | (go_at_call 153; refine (HF.out _).mono ?_; rintro e2 w2 ⟨rfl, h2⟩; subst h2))
   go_quiet (fail)
   go_wp2_with fail
   go_ret3
   exact ⟨rfl, below_drews ⟨_, rfl⟩⟩
theorem hostp_any (s : ByteArray) (hs : s.size ≤ 1000000) (w : World) :
 Calls Tryz.prog 89 #[.string s] w fun e w' => e = .returned (.tuple #[.string (s.extract 0 (hostR s.data.toList).1), .int .i64 (hostR s.data.toList).2.1, .int .i64 (hostR s.data.toList).2.2]) ∧ Below w.heap.size w w' := by
 obtain ⟨I, hI⟩ : ∃ I, Lib.lastIndexByte s 58 = I := ⟨_, rfl⟩
 obtain ⟨J, hJ⟩ : ∃ J, Lib.indexByte s.data.toList 93 = J := ⟨_, rfl⟩
 have h58 : ((58 : UInt8).toNat : Int) = 58 := rfl
 have hlast := last_place s 58
 rw [h58, hI] at hlast
 have hfirst := first_place s.data.toList 93
 rw [hJ] at hfirst
 have hlaw := host_law s.data.toList I J (by
  rcases hlast with h | ⟨i, h0, h1, h2, h3⟩
  ·exact Or.inl h
  ·exact Or.inr ⟨i, h1, h2, h3⟩) hfirst
 rw [← hlaw]
 have HCT := lH (hcut_any s hs I J hI hJ w)
 have hsz : s.data.toList.length = s.size := rfl
 have hlt : ∀ i : Nat, I = i → i < s.size := by
  intro i hi
  rcases hlast with ⟨h, _⟩ | ⟨j, h, h', _⟩
  ·omega
  ·omega
 clear hI hJ h58 hlast hfirst hlaw
 have he := isEmpty_list s
 obtain ⟨E, hE⟩ : ∃ E, E = s.toList.isEmpty := ⟨_, rfl⟩
 have heq : s.toList.isEmpty = E := hE.symm
 rw [heq] at he
 have es : ∀ t : ByteArray, t.extract 0 0 = ⟨#[]⟩ := fun t => by apply ext_list; rw [Lib.extract_data]; simp
 cases E with
 | true =>
   have HP : Hid (hostP s.data.toList I J = (0, 0, 2)) := by show _ = _; unfold hostP; rw [if_pos he.symm]
   clear he hE HCT
   go_enter Tryz.func89, Tryz.ntmps89
   go_wp2_with fail
   go_ret3
   rw [HP.out, es]
   exact ⟨rfl, Below.refl _ _⟩
 | false =>
   have hne : ¬ (s.data.toList.isEmpty = true) := by rw [← he]; decide
   by_cases hno : I < J ∨ I < 0
   ·rw [if_pos hno] at HCT
    obtain ⟨rg, hrg⟩ : ∃ b, b = regP s.data.toList := ⟨_, rfl⟩
    obtain ⟨li, hli⟩ : ∃ b, b = litP s.data.toList := ⟨_, rfl⟩
    have HP : Hid (hostP s.data.toList I J = if (rg || li) = true then (s.size, 80, 0) else (0, 0, 3)) := by show _ = _; unfold hostP; rw [if_neg hne, if_pos hno, hrg, hli]; rfl
    have HRG := lH (fun (W : World) => registered_any s hs W)
    have HLI := lH (fun (W : World) => literal_any s hs W)
    rw [← hrg] at HRG
    rw [← hli] at HLI
    have HX : Hid (s.extract 0 s.size = s) := by show _ = _; exact ByteArray.extract_zero_size
    clear he hE hne hno hrg hli
    cases rg <;> cases li
    all_goals
     go_enter Tryz.func89, Tryz.ntmps89
     go_wp2_with (first
      | (go_at_call 122; refine HCT.out.mono ?_; rintro e1 w1 ⟨rfl, h1⟩)
      | (go_at_call 123; refine (HRG.out _).mono ?_; rintro e2 w2 ⟨rfl, h2⟩)
      | (go_at_call 124; refine (HLI.out _).mono ?_; rintro e3 w3 ⟨rfl, h3⟩))
     go_ret3
     rw [HP.out]
     simp only [Bool.or_false, Bool.or_true, Bool.true_or, Bool.false_eq_true, if_true, if_false, es, HX.out]
     first
      | exact ⟨rfl, h1.trans (h2.mono h1.size) |>.trans (h3.mono (nT h1.size h2.size))⟩
      | exact ⟨rfl, h1.trans (h2.mono h1.size)⟩
   ·rw [if_neg hno] at HCT
    obtain ⟨i, rfl⟩ : ∃ i : Nat, I = i := ⟨I.toNat, by omega⟩
    have hi := hlt i rfl
    rw [Int.toNat_natCast] at HCT
    obtain ⟨X, hX⟩ : ∃ X, X = s.extract 0 i := ⟨_, rfl⟩
    obtain ⟨Y, hY⟩ : ∃ Y, Y = s.extract (i + 1) s.size := ⟨_, rfl⟩
    have hXd : X.data.toList = s.data.toList.take i := by rw [hX, Lib.extract_data]; simp
    have hYd : Y.data.toList = s.data.toList.drop (i + 1) := by rw [hY, rest_data]
    have hXs : X.size ≤ 1000000 := by rw [hX]; simp; omega
    have hYs : Y.size ≤ 9223372036854775807 := by rw [hY]; simp; omega
    obtain ⟨rg, hrg⟩ : ∃ b, b = regP X.data.toList := ⟨_, rfl⟩
    obtain ⟨li, hli⟩ : ∃ b, b = litP X.data.toList := ⟨_, rfl⟩
    obtain ⟨n, e, hne2⟩ : ∃ n e, numRes Y.data.toList 10 65535 = (n, e) := ⟨_, _, rfl⟩
    have HP : Hid (hostP s.data.toList i J = if (rg || li) = true then (if e = 5 then (0, 0, 5) else if e ≠ 0 then (0, 0, 3) else (i, n, 0)) else (0, 0, 3)) := by
     show _ = _
     unfold hostP
     rw [if_neg hne, if_neg hno, Int.toNat_natCast, hrg, hli, hXd, ← hYd, hne2]
    have HRG := lH (fun (W : World) => registered_any X hXs W)
    have HLI := lH (fun (W : World) => literal_any X hXs W)
    rw [← hrg] at HRG
    rw [← hli] at HLI
    have HD := lH (fun (W : World) => dec_any Y 65535 hYs (by decide) (by decide) n e hne2 W)
    rw [← hX, ← hY] at HCT
    have HX := lH hX
    clear he hE hne hno hrg hli hne2 hXd hYd hX hY hlt hi
    cases rg <;> cases li
    ·go_enter Tryz.func89, Tryz.ntmps89
     go_wp2_with (first
      | (go_at_call 122; refine HCT.out.mono ?_; rintro e1 w1 ⟨rfl, h1⟩)
      | (go_at_call 123; refine (HRG.out _).mono ?_; rintro e2 w2 ⟨rfl, h2⟩)
      | (go_at_call 124; refine (HLI.out _).mono ?_; rintro e3 w3 ⟨rfl, h3⟩))
     go_ret3
     rw [HP.out, if_neg (by decide), es]
     exact ⟨rfl, h1.trans (h2.mono h1.size) |>.trans (h3.mono (nT h1.size h2.size))⟩
    all_goals
     by_cases e0 : e = 0
     ·subst e0
      have HV : Hid (hostP s.data.toList i J = (i, n, 0)) := by show _ = _; rw [HP.out]; simp
      clear HP
      go_enter Tryz.func89, Tryz.ntmps89
      go_wp2_with (first
       | (go_at_call 122; refine HCT.out.mono ?_; rintro e1 w1 ⟨rfl, h1⟩)
       | (go_at_call 123; refine (HRG.out _).mono ?_; rintro e2 w2 ⟨rfl, h2⟩)
       | (go_at_call 124; refine (HLI.out _).mono ?_; rintro e3 w3 ⟨rfl, h3⟩)
       | (go_at_call 125; refine (HD.out _).mono ?_; rintro e4 w4 ⟨rfl, h4⟩))
      go_ret3
      rw [HV.out, ← HX.out]
      first
       | exact ⟨rfl, ((h1.trans (h2.mono h1.size)).trans (h3.mono (nT h1.size h2.size))).trans (h4.mono (nT (nT h1.size h2.size) h3.size))⟩
       | exact ⟨rfl, (h1.trans (h2.mono h1.size)).trans (h4.mono (nT h1.size h2.size))⟩
     ·by_cases e5 : e = 5
      ·subst e5
       have HV : Hid (hostP s.data.toList i J = (0, 0, 5)) := by show _ = _; rw [HP.out]; simp
       clear HP
       go_enter Tryz.func89, Tryz.ntmps89
       go_wp2_with (first
        | (go_at_call 122; refine HCT.out.mono ?_; rintro e1 w1 ⟨rfl, h1⟩)
        | (go_at_call 123; refine (HRG.out _).mono ?_; rintro e2 w2 ⟨rfl, h2⟩)
        | (go_at_call 124; refine (HLI.out _).mono ?_; rintro e3 w3 ⟨rfl, h3⟩)
        | (go_at_call 125; refine (HD.out _).mono ?_; rintro e4 w4 ⟨rfl, h4⟩))
       go_ret3
       rw [HV.out, es]
       first
        | exact ⟨rfl, ((h1.trans (h2.mono h1.size)).trans (h3.mono (nT h1.size h2.size))).trans (h4.mono (nT (nT h1.size h2.size) h3.size))⟩
        | exact ⟨rfl, (h1.trans (h2.mono h1.size)).trans (h4.mono (nT h1.size h2.size))⟩
      ·have b0 : (e == 0) = false := by rw [beq_eq_false_iff_ne]; exact e0
       have b5 : (e == 5) = false := by rw [beq_eq_false_iff_ne]; exact e5
       have HV : Hid (hostP s.data.toList i J = (0, 0, 3)) := by show _ = _; rw [HP.out]; simp [e0, e5]
       clear HP
       go_enter Tryz.func89, Tryz.ntmps89
       go_wp2_with (first
        | (go_at_call 122; refine HCT.out.mono ?_; rintro e1 w1 ⟨rfl, h1⟩)
        | (go_at_call 123; refine (HRG.out _).mono ?_; rintro e2 w2 ⟨rfl, h2⟩)
        | (go_at_call 124; refine (HLI.out _).mono ?_; rintro e3 w3 ⟨rfl, h3⟩)
        | (go_at_call 125; refine (HD.out _).mono ?_; rintro e4 w4 ⟨rfl, h4⟩))
       go_ret3
       rw [HV.out, es]
       first
        | exact ⟨rfl, ((h1.trans (h2.mono h1.size)).trans (h3.mono (nT h1.size h2.size))).trans (h4.mono (nT (nT h1.size h2.size) h3.size))⟩
        | exact ⟨rfl, (h1.trans (h2.mono h1.size)).trans (h4.mono (nT h1.size h2.size))⟩
end Go.Proofs.YtaojfiegnebbdaaGreatDoor
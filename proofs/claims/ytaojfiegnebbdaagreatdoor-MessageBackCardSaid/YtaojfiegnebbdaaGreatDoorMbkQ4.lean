/- Texts packed for one claim, 4 of 52: Start Number Trim StartB StartC NumberW Status StatusAll StatusR PrP LsP LsW HostP. -/
import Derived.Test.YtaojfiegnebbdaaGreatDoorMbkQ3
import Derived.Test.YtaojfiegnebbdaaGreatDoorMbkShelf
import Derived.Deep.QuietTactic
import Derived.BigQuiet
import Derived.Test.YtaojfiegnebbdaaGreatDoorMbkQ2
set_option maxRecDepth 100000
set_option maxHeartbeats 16000000
set_option linter.unusedSimpArgs false
set_option linter.unusedVariables false
-- Start
namespace Go.Proofs.YtaojfiegnebbdaaGreatDoor
open Go.RowKit
def isDg (r : Int) : Bool := decide (48 ≤ r ∧ r ≤ 57)
def bt (s : ByteArray) (i : Nat) : Int := if h : i < s.size then ((s[i]'h).toNat : Int) else 0
def vform (s : ByteArray) : Bool := decide (s.size = 8) && (Lib.hasPrefix s.data.toList [72, 84, 84, 80, 47] && (isDg (bt s 5) && (decide (bt s 6 = 46) && isDg (bt s 7))))
def vminor (s : ByteArray) : Int × Int := if vform s = false then (0, 3) else if bt s 5 = 49 then (if bt s 7 = 48 then (0, 0) else (1, 0)) else (0, 9)
theorem bt_range (s : ByteArray) (i : Nat) : 0 ≤ bt s i ∧ bt s i ≤ 255 := by
 unfold bt
 split
 ·rename_i h
  have := (s[i]'h).toNat_lt
  omega
 ·omega
theorem index_bt (s : ByteArray) (i : Nat) (h : i < s.size) (W : World) : (Instr.index 9 (.string s) (.int .i64 (i : Int))).run Tryz.prog W = .ok (.int .u8 (bt s i)) W := by
 have h1 := run_index_string (P := Tryz.prog) (w := W) 9 s .i64 (i : Int) Tryz.underlying9
 have h2 : 0 ≤ (i : Int) ∧ (i : Int) < s.size := by omega
 rw [dif_pos h2] at h1
 rw [h1]
 unfold bt
 rw [dif_pos h]
 rfl
theorem isDg_false {r : Int} (h : r < 48 ∨ 57 < r) : isDg r = false := by unfold isDg; rw [decide_eq_false_iff_not]; omega
theorem isDg_true {r : Int} (h : 48 ≤ r) (h' : r ≤ 57) : isDg r = true := by unfold isDg; rw [decide_eq_true_eq]; exact ⟨h, h'⟩
theorem sdigit_any (r : Int) (h0 : 0 ≤ r) (h1 : r ≤ 255) (w : World) : Calls Tryz.prog 231 #[.int .u8 r] w fun e w' => e = .returned (.bool (isDg r)) ∧ w = w' := by
 rcases (by omega : r < 48 ∨ (48 ≤ r ∧ r ≤ 57) ∨ 57 < r) with h | ⟨h, h'⟩ | h
 ·have HV := lH (isDg_false (.inl h))
  go_enter Tryz.func231, Tryz.ntmps231
  go_wp2_with fail
  go_ret
  rw [HV.out]
  exact ⟨rfl, rfl⟩
 ·have HV := lH (isDg_true h h')
  go_enter Tryz.func231, Tryz.ntmps231
  go_wp2_with fail
  go_ret
  rw [HV.out]
  exact ⟨rfl, rfl⟩
 ·have HV := lH (isDg_false (.inr h))
  have hd : decide (r ≤ 57) = false := by rw [decide_eq_false_iff_not]; omega
  go_enter Tryz.func231, Tryz.ntmps231
  go_wp2_with fail
  go_ret
  rw [HV.out]
  exact ⟨rfl, rfl⟩
theorem sversion_any (n : Int) (w : World) : Calls Tryz.prog 114 #[.int .i64 n] w fun e w' => e = .returned (.string (if n ≤ 0 then ⟨#[72, 84, 84, 80, 47, 49, 46, 48]⟩ else ⟨#[72, 84, 84, 80, 47, 49, 46, 49]⟩)) ∧ w = w' := by
 by_cases h : n ≤ 0
 ·go_enter Tryz.func114, Tryz.ntmps114
  go_wp2_with fail
  go_ret
  exact ⟨rfl, rfl⟩
 ·have h2 : 0 < n := by omega
  go_enter Tryz.func114, Tryz.ntmps114
  go_wp2_with fail
  go_ret
  exact ⟨rfl, rfl⟩
theorem formed_no (s : ByteArray) (h : s.size ≠ 8) : vform s = false := by unfold vform; rw [dF h]; rfl
theorem formed_of (s : ByteArray) (h : s.size = 8) {p d e f : Bool} (hp : Lib.hasPrefix s.data.toList [72, 84, 84, 80, 47] = p) (hd : isDg (bt s 5) = d) (he : decide (bt s 6 = 46) = e) (hf : isDg (bt s 7) = f) : vform s = (p && (d && (e && f))) := by
 unfold vform; rw [dT h, hp, hd, he, hf]; rfl
theorem prefix_at (s : ByteArray) {p : Bool} (hp : Lib.hasPrefix s.data.toList [72, 84, 84, 80, 47] = p) (w : World) : Calls Tryz.prog 174 #[.string s, .string ⟨#[72, 84, 84, 80, 47]⟩] w fun e w' => e = .returned (.bool p) ∧ w = w' := by
 subst hp
 exact (Tryz.strings_HasPrefix s ⟨#[72, 84, 84, 80, 47]⟩ w).mono fun _ _ ⟨a, b⟩ => ⟨a, b.symm⟩
theorem sdigit_at {r : Int} {d : Bool} (hd : isDg r = d) (h : 0 ≤ r ∧ r ≤ 255) (w : World) : Calls Tryz.prog 231 #[.int .u8 r] w fun e w' => e = .returned (.bool d) ∧ w = w' := by
 subst hd
 exact sdigit_any r h.1 h.2 w
theorem formed_any (s : ByteArray) (hs : s.size ≤ 9223372036854775807) (w : World) : Calls Tryz.prog 222 #[.string s] w fun e w' => e = .returned (.bool (vform s)) ∧ w = w' := by
 by_cases h8 : s.size = 8
 ·obtain ⟨p, hp⟩ : ∃ p, Lib.hasPrefix s.data.toList [72, 84, 84, 80, 47] = p := ⟨_, rfl⟩
  obtain ⟨d, hd⟩ : ∃ d, isDg (bt s 5) = d := ⟨_, rfl⟩
  obtain ⟨e, he⟩ : ∃ e, decide (bt s 6 = 46) = e := ⟨_, rfl⟩
  obtain ⟨f, hf⟩ : ∃ f, isDg (bt s 7) = f := ⟨_, rfl⟩
  have HV := lH (formed_of s h8 hp hd he hf)
  have i5 : ∀ W : World, (Instr.index 9 (.string s) (.int .i64 5)).run Tryz.prog W = .ok (.int .u8 (bt s 5)) W := index_bt s 5 (by omega)
  have i6 : ∀ W : World, (Instr.index 9 (.string s) (.int .i64 6)).run Tryz.prog W = .ok (.int .u8 (bt s 6)) W := index_bt s 6 (by omega)
  have i7 : ∀ W : World, (Instr.index 9 (.string s) (.int .i64 7)).run Tryz.prog W = .ok (.int .u8 (bt s 7)) W := index_bt s 7 (by omega)
  have r5 := lH (bt_range s 5)
  have r7 := lH (bt_range s 7)
  obtain ⟨b5, hb5⟩ : ∃ b, b = bt s 5 := ⟨_, rfl⟩
  obtain ⟨b6, hb6⟩ : ∃ b, b = bt s 6 := ⟨_, rfl⟩
  obtain ⟨b7, hb7⟩ : ∃ b, b = bt s 7 := ⟨_, rfl⟩
  rw [← hb5] at i5 hd r5
  rw [← hb6] at i6 he
  rw [← hb7] at i7 hf r7
  have he' : (b6 == 46) = e := he
  have HP := lH hp
  have HD := lH hd
  have HF := lH hf
  clear hp hd hf hb5 hb6 hb7
  have h8i : (s.size : Int) = 8 := by omega
  have h5 : p = false ∨ (p = true ∧ d = false) ∨ (p = true ∧ d = true ∧ e = false) ∨ (p = true ∧ d = true ∧ e = true ∧ f = false) ∨ (p = true ∧ d = true ∧ e = true ∧ f = true) := by cases p <;> cases d <;> cases e <;> cases f <;> simp
  rcases h5 with rfl | ⟨rfl, rfl⟩ | ⟨rfl, rfl, rfl⟩ | ⟨rfl, rfl, rfl, rfl⟩ | ⟨rfl, rfl, rfl, rfl⟩
  all_goals
   go_enter Tryz.func222, Tryz.ntmps222
   go_wp2_with (first
    | (go_at_call 174; refine (prefix_at s HP.out _).mono ?_; rintro e' w' ⟨rfl, rfl⟩)
    | (go_at_call 231; first | (refine (sdigit_at HD.out r5.out _).mono ?_; rintro e' w' ⟨rfl, rfl⟩) | (refine (sdigit_at HF.out r7.out _).mono ?_; rintro e' w' ⟨rfl, rfl⟩)))
   go_ret
   rw [HV.out]
   exact ⟨rfl, rfl⟩
 ·have HV := lH (formed_no s h8)
  have h8i : ¬ ((s.size : Int) = 8) := by omega
  go_enter Tryz.func222, Tryz.ntmps222
  go_wp2_with fail
  go_ret
  rw [HV.out]
  exact ⟨rfl, rfl⟩
end Go.Proofs.YtaojfiegnebbdaaGreatDoor
-- Number
namespace Go.Proofs.YtaojfiegnebbdaaGreatDoor
open Go.RowKit
theorem bt_get (s : ByteArray) (k : Nat) (h : k < s.size) : bt s k = ((s[k]'h).toNat : Int) := by unfold bt; rw [dif_pos h]
end Go.Proofs.YtaojfiegnebbdaaGreatDoor
-- Trim
namespace Go.Proofs.YtaojfiegnebbdaaGreatDoor
open Go.RowKit
def isBl (r : Int) : Bool := decide (r = 32 ∨ r = 9)
def blL (b : UInt8) : Bool := isBl b.toNat
def trimL (l : List UInt8) : List UInt8 := ((l.dropWhile blL).reverse.dropWhile blL).reverse
def trimB (s : ByteArray) : ByteArray := ⟨(trimL s.data.toList).toArray⟩
theorem drop_all : ∀ (p l : List UInt8), (∀ b ∈ p, blL b = true) → (p ++ l).dropWhile blL = l.dropWhile blL
 | [], _, _ => rfl
 | b :: p, l, h => by
   rw [List.cons_append, List.dropWhile_cons, if_pos (h b (by simp)), drop_all p l (fun x hx => h x (by simp [hx]))]
theorem drop_nil {p : List UInt8} (h : ∀ b ∈ p, blL b = true) : p.dropWhile blL = [] := by
 have := drop_all p [] h
 rw [List.append_nil] at this
 exact this
theorem trim_front {p : List UInt8} (l : List UInt8) (h : ∀ b ∈ p, blL b = true) : trimL (p ++ l) = trimL l := by
 unfold trimL; rw [drop_all p l h]
theorem trim_back {q : List UInt8} (l : List UInt8) (h : ∀ b ∈ q, blL b = true) : trimL (l ++ q) = trimL l := by
 unfold trimL
 rw [List.dropWhile_append]
 by_cases hl : (l.dropWhile blL).isEmpty = true
 ·rw [if_pos hl, drop_nil h]
  rw [List.isEmpty_iff] at hl
  rw [hl]
 ·rw [if_neg hl, List.reverse_append, drop_all q.reverse _ (fun b hb => h b (by simpa using hb))]
theorem trim_id {l : List UInt8} (h1 : ∀ b, l.head? = some b → blL b = false) (h2 : ∀ b, l.getLast? = some b → blL b = false) : trimL l = l := by
 unfold trimL
 have e1 : l.dropWhile blL = l := by
  cases l with
  | nil => rfl
  | cons b t => rw [List.dropWhile_cons, if_neg (by rw [h1 b rfl]; decide)]
 rw [e1]
 have e2 : l.reverse.dropWhile blL = l.reverse := by
  cases hr : l.reverse with
  | nil => rfl
  | cons b t =>
    have : l.getLast? = some b := by rw [← List.head?_reverse, hr]; rfl
    rw [List.dropWhile_cons, if_neg (by rw [h2 b this]; decide)]
 rw [e2, List.reverse_reverse]
theorem isBl_true {r : Int} (h : r = 32 ∨ r = 9) : isBl r = true := dT h
theorem isBl_false {r : Int} (h1 : r ≠ 32) (h2 : r ≠ 9) : isBl r = false := dF (by omega)
theorem blL_bt (s : ByteArray) (k : Nat) (h : k < s.size) : blL (s[k]'h) = isBl (bt s k) := by unfold blL; rw [bt_get s k h]
theorem blank_any (r : Int) (w : World) : Calls Tryz.prog 140 #[.int .u8 r] w fun e w' => e = .returned (.bool (isBl r)) ∧ w = w' := by
 by_cases h1 : r = 32
 ·have HV := lH (isBl_true (.inl h1))
  subst h1
  go_enter Tryz.func140, Tryz.ntmps140
  go_wp2_with fail
  go_ret
  rw [HV.out]
  exact ⟨rfl, rfl⟩
 ·have e1 : (r == 32) = false := by rw [beq_eq_false_iff_ne]; exact h1
  by_cases h2 : r = 9
  ·have HV := lH (isBl_true (.inr h2))
   subst h2
   go_enter Tryz.func140, Tryz.ntmps140
   go_wp2_with fail
   go_ret
   rw [HV.out]
   exact ⟨rfl, rfl⟩
  ·have e2 : (r == 9) = false := by rw [beq_eq_false_iff_ne]; exact h2
   have HV := lH (isBl_false h1 h2)
   go_enter Tryz.func140, Tryz.ntmps140
   go_wp2_with fail
   go_ret
   rw [HV.out]
   exact ⟨rfl, rfl⟩
theorem blank_at {r : Int} {p : Bool} (h : isBl r = p) (w : World) : Calls Tryz.prog 140 #[.int .u8 r] w fun e w' => e = .returned (.bool p) ∧ w = w' := by
 subst h; exact blank_any r w
theorem ext_list {a b : ByteArray} (h : a.data.toList = b.data.toList) : a = b := by
 apply ByteArray.ext
 exact Array.toList_inj.1 h
theorem mem_take_bt {s : ByteArray} {k : Nat} (hk : k ≤ s.size) (h : ∀ j, j < k → isBl (bt s j) = true) : ∀ b ∈ s.data.toList.take k, blL b = true := by
 intro b hb
 obtain ⟨j, hj, e⟩ := List.getElem_of_mem hb
 rw [List.length_take] at hj
 have hj' : j < s.size := by omega
 rw [List.getElem_take] at e
 rw [← e]
 show blL (s[j]'hj') = true
 rw [blL_bt]; exact h j (by omega)
theorem mem_drop_bt {s : ByteArray} {k : Nat} (h : ∀ j, k ≤ j → j < s.size → isBl (bt s j) = true) : ∀ b ∈ s.data.toList.drop k, blL b = true := by
 intro b hb
 obtain ⟨j, hj, e⟩ := List.getElem_of_mem hb
 rw [List.length_drop] at hj
 have hj' : k + j < s.size := by have : s.data.toList.length = s.size := by simp
                                 omega
 rw [List.getElem_drop] at e
 rw [← e]
 show blL (s[k + j]'hj') = true
 rw [blL_bt]; exact h (k + j) (by omega) hj'
theorem trim_none {s : ByteArray} (h : ∀ j, j < s.size → isBl (bt s j) = true) : trimB s = ⟨#[]⟩ := by
 have := mem_take_bt (nR _) h
 rw [List.take_of_length_le (by simp)] at this
 unfold trimB trimL
 rw [drop_nil this]
 rfl
theorem list_cut (s : ByteArray) {k j : Nat} (hkj : k ≤ j) : s.data.toList = s.data.toList.take k ++ ((s.extract k j).data.toList ++ s.data.toList.drop j) := by
 rw [Lib.extract_data]
 have h1 : s.data.toList.drop j = (s.data.toList.drop k).drop (j - k) := by rw [List.drop_drop]; congr 1; omega
 rw [h1, List.take_append_drop, List.take_append_drop]
theorem trim_cut {s : ByteArray} {k j : Nat} (hkj : k < j) (hj : j ≤ s.size) (h1 : ∀ i, i < k → isBl (bt s i) = true) (h2 : ∀ i, j ≤ i → i < s.size → isBl (bt s i) = true) (h3 : isBl (bt s k) = false) (h4 : isBl (bt s (j - 1)) = false) : trimB s = s.extract k j := by
 apply ext_list
 show trimL s.data.toList = _
 rw [list_cut s (Nat.le_of_lt hkj), trim_front _ (mem_take_bt (by omega) h1), trim_back _ (mem_drop_bt h2)]
 refine trim_id (fun b hb => ?_) (fun b hb => ?_)
 ·rw [List.head?_eq_getElem?, Lib.extract_data, List.getElem?_take_of_lt (by omega), List.getElem?_drop, Nat.add_zero, List.getElem?_eq_getElem (by simp; omega)] at hb
  have := Option.some.inj hb
  rw [← this]
  show blL (s[k]'(by omega)) = false
  rw [blL_bt]; exact h3
 ·rw [List.getLast?_eq_getElem?, Lib.extract_data, List.length_take, List.length_drop] at hb
  have hl : s.data.toList.length = s.size := by simp
  rw [hl, show min (j - k) (s.size - k) - 1 = j - k - 1 by omega, List.getElem?_take_of_lt (by omega), List.getElem?_drop, show k + (j - k - 1) = j - 1 by omega, List.getElem?_eq_getElem (by simp; omega)] at hb
  have := Option.some.inj hb
  rw [← this]
  show blL (s[j - 1]'(by omega)) = false
  rw [blL_bt]; exact h4
theorem trim_any (s : ByteArray) (hs : s.size ≤ 9223372036854775807) (w : World) : Calls Tryz.prog 108 #[.string s] w fun e w' => e = .returned (.string (trimB s)) ∧ w = w' := by
 have hsi : (s.size : Int) ≤ 9223372036854775807 := by omega
 go_enter Tryz.func108, Tryz.ntmps108
 go_wp2_with fail
 go_loop [3] (fun i => ∃ k : Nat, k ≤ s.size ∧ i = .int .i64 k ∧ ∀ j, j < k → isBl (bt s j) = true) (fun i => s.size - (intOf i).toNat)
 case atStart => exact ⟨0, by omega, rfl, fun j hj => by omega⟩
 case round =>
  obtain ⟨k, hk, rfl, hall⟩ := hrel
  have HA := lH hall
  clear hall
  by_cases hlt : k < s.size
  ·have hki : (k : Int) < s.size := by omega
   obtain ⟨b, hb⟩ : ∃ b, b = bt s k := ⟨_, rfl⟩
   have hix : ∀ W : World, (Instr.index 9 (.string s) (.int .i64 k)).run Tryz.prog W = .ok (.int .u8 b) W := by rw [hb]; exact index_bt s k hlt
   cases hbl : isBl b
   ·have HB := lH hbl
    have HBB := lH hb
    clear hb hbl
    go_wp2_with (go_at_call 140; refine (blank_at HB.out _).mono ?_; rintro e' w' ⟨rfl, rfl⟩)
    go_loop [4] (fun i => ∃ j : Nat, k + 1 ≤ j ∧ j ≤ s.size ∧ i = .int .i64 j ∧ ∀ x, j ≤ x → x < s.size → isBl (bt s x) = true) (fun i => (intOf i).toNat)
    case atStart => exact ⟨s.size, by omega, nR _, rfl, fun x h1 h2 => by omega⟩
    case round =>
     obtain ⟨j, hj1, hj2, rfl, hall⟩ := hrel
     have HC := lH hall
     clear hall hix
     obtain ⟨i, rfl⟩ : ∃ i, j = i + 1 := ⟨j - 1, by omega⟩
     have hji : (k : Int) < (i : Int) + 1 := by omega
     have hjk : (i : Int) + 1 ≤ 9223372036854775807 := by omega
     have hjs : (i : Int) < s.size := by omega
     obtain ⟨c, hc⟩ : ∃ c, c = bt s i := ⟨_, rfl⟩
     have hix : ∀ W : World, (Instr.index 9 (.string s) (.int .i64 i)).run Tryz.prog W = .ok (.int .u8 c) W := by rw [hc]; exact index_bt s i (by omega)
     cases hcl : isBl c
     ·have HD := lH hcl
      have HR : Hid (trimB s = s.extract k (i + 1)) := trim_cut (by omega) hj2 HA.out HC.out (HBB.out ▸ HB.out) (by rw [Nat.add_sub_cancel]; exact hc ▸ hcl)
      have hsl := fun (W : World) => run_slice_string (w := W) 9 s .i64 .i64 (k : Int) ((i : Int) + 1) Tryz.underlying9 (by omega) (by omega) (by omega)
      have e1 : ((i : Int) + 1).toNat = i + 1 := rfl
      have e2 : (k : Int).toNat = k := rfl
      rw [e1, e2] at hsl
      clear hc hcl e1 e2
      go_wp2_with (go_at_call 140; refine (blank_at HD.out _).mono ?_; rintro e' w' ⟨rfl, rfl⟩)
      go_ret
      rw [HR.out]
      exact ⟨rfl, rfl⟩
     ·have HD := lH hcl
      have hne : Hid (k + 1 ≤ i) := by
       show k + 1 ≤ i
       rcases (by omega : k + 1 ≤ i ∨ i = k) with h | h
       ·exact h
       ·rw [hc, h] at hcl
        have := HB.out
        rw [HBB.out, hcl] at this
        cases this
      have HE : Hid (∀ x, i ≤ x → x < s.size → isBl (bt s x) = true) := by
       show ∀ x, i ≤ x → x < s.size → isBl (bt s x) = true
       intro x h1 h2
       rcases (by omega : x = i ∨ i + 1 ≤ x) with rfl | h
       ·rw [← hc]; exact hcl
       ·exact HC.out x h h2
      clear hc hcl
      go_wp2_with (go_at_call 140; refine (blank_at HD.out _).mono ?_; rintro e' w' ⟨rfl, rfl⟩)
      go_round
      case rel => exact ⟨i, hne.out, by omega, by go_num, HE.out⟩
      case measure => simp [intOf]
   ·have HB := lH hbl
    have HE : Hid (∀ j, j < k + 1 → isBl (bt s j) = true) := by
     show ∀ j, j < k + 1 → isBl (bt s j) = true
     intro x h1
     rcases (by omega : x = k ∨ x < k) with rfl | h
     ·rw [← hb]; exact hbl
     ·exact HA.out x h
    clear hb hbl
    go_wp2_with (go_at_call 140; refine (blank_at HB.out _).mono ?_; rintro e' w' ⟨rfl, rfl⟩)
    go_round
    case rel => exact ⟨k + 1, by omega, by go_num, HE.out⟩
    case measure => simp [intOf]; omega
  ·obtain rfl : k = s.size := by omega
   have HR : Hid (trimB s = ByteArray.empty) := trim_none HA.out
   have hsl := fun (W : World) => run_slice_string (w := W) 9 s .i64 .i64 (s.size : Int) (s.size : Int) Tryz.underlying9 (by omega) (by omega) (by omega)
   have e2 : (s.size : Int).toNat = s.size := rfl
   rw [e2] at hsl
   have hd : decide ((s.size : Int) < s.size) = false := by rw [decide_eq_false_iff_not]; omega
   clear e2 hlt hk
   go_wp2_with fail
   refine wp_loop_rounds 1 ?_
   rw [rounds_succ]
   go_wp2_with fail
   go_ret
   rw [HR.out]
   exact ⟨rfl, rfl⟩
end Go.Proofs.YtaojfiegnebbdaaGreatDoor
-- StartB
namespace Go.Proofs.YtaojfiegnebbdaaGreatDoor
open Go.RowKit
theorem vform_size {s : ByteArray} (h : vform s = true) : s.size = 8 := by
 unfold vform at h
 rw [Bool.and_eq_true, decide_eq_true_eq] at h
 exact h.1
theorem vform_seven {s : ByteArray} (h : vform s = true) : 48 ≤ bt s 7 ∧ bt s 7 ≤ 57 := by
 unfold vform at h
 rw [Bool.and_eq_true, Bool.and_eq_true, Bool.and_eq_true, Bool.and_eq_true] at h
 have := h.2.2.2.2
 unfold isDg at this
 rw [decide_eq_true_eq] at this
 exact this
theorem vminor_form {s : ByteArray} (h : vform s = false) : vminor s = (0, 3) := by unfold vminor; rw [if_pos h]
theorem vminor_version {s : ByteArray} (h : vform s = true) (h5 : bt s 5 ≠ 49) : vminor s = (0, 9) := by unfold vminor; rw [if_neg (by rw [h]; decide), if_neg h5]
theorem vminor_zero {s : ByteArray} (h : vform s = true) (h5 : bt s 5 = 49) (h7 : bt s 7 = 48) : vminor s = (0, 0) := by unfold vminor; rw [if_neg (by rw [h]; decide), if_pos h5, if_pos h7]
theorem vminor_one {s : ByteArray} (h : vform s = true) (h5 : bt s 5 = 49) (h7 : bt s 7 ≠ 48) : vminor s = (1, 0) := by unfold vminor; rw [if_neg (by rw [h]; decide), if_pos h5, if_neg h7]
theorem formed_at {s : ByteArray} (hs : s.size ≤ 9223372036854775807) {p : Bool} (h : vform s = p) (w : World) : Calls Tryz.prog 222 #[.string s] w fun e w' => e = .returned (.bool p) ∧ w = w' := by
 subst h
 exact formed_any s hs w
theorem minor_any (s : ByteArray) (hs : s.size ≤ 9223372036854775807) {k e : Int} (hv : vminor s = (k, e)) (w : World) : Calls Tryz.prog 221 #[.string s] w fun r w' => r = .returned (.tuple #[.int .i64 k, .int .i64 e]) ∧ w = w' := by
 have HV := lH hv
 have HS := lH hs
 clear hv
 cases hf : vform s
 ·have HK : Hid ((0, 3) = (k, e)) := by rw [← HV.out, vminor_form hf]; exact rfl
  have HF := lH hf
  clear hf
  go_enter Tryz.func221, Tryz.ntmps221
  go_wp2_with (go_at_call 222; refine (formed_at HS.out HF.out _).mono ?_; rintro e' w' ⟨rfl, rfl⟩)
  go_ret2
  obtain ⟨rfl, rfl⟩ := Prod.mk.inj HK.out
  exact ⟨rfl, rfl⟩
 ·have h8 := vform_size hf
  have hr7 := vform_seven hf
  have i5 : ∀ W : World, (Instr.index 9 (.string s) (.int .i64 5)).run Tryz.prog W = .ok (.int .u8 (bt s 5)) W := index_bt s 5 (by omega)
  have i7 : ∀ W : World, (Instr.index 9 (.string s) (.int .i64 7)).run Tryz.prog W = .ok (.int .u8 (bt s 7)) W := index_bt s 7 (by omega)
  obtain ⟨b5, hb5⟩ : ∃ b, b = bt s 5 := ⟨_, rfl⟩
  obtain ⟨b7, hb7⟩ : ∃ b, b = bt s 7 := ⟨_, rfl⟩
  rw [← hb5] at i5
  rw [← hb7] at i7 hr7
  have HF := lH hf
  have HB5 := lH hb5
  have HB7 := lH hb7
  clear hf hb5 hb7 h8
  by_cases h5 : b5 = 49
  ·by_cases h7 : b7 = 48
   ·have HK : Hid ((0, 0) = (k, e)) := by rw [← HV.out, vminor_zero HF.out (HB5.out ▸ h5) (HB7.out ▸ h7)]; exact rfl
    subst h5 h7
    go_enter Tryz.func221, Tryz.ntmps221
    go_wp2_with (go_at_call 222; refine (formed_at HS.out HF.out _).mono ?_; rintro e' w' ⟨rfl, rfl⟩)
    go_ret2
    obtain ⟨rfl, rfl⟩ := Prod.mk.inj HK.out
    exact ⟨rfl, rfl⟩
   ·have HK : Hid ((1, 0) = (k, e)) := by rw [← HV.out, vminor_one HF.out (HB5.out ▸ h5) (HB7.out ▸ h7)]; exact rfl
    have h7' : (b7 == 48) = false := by simpa using h7
    subst h5
    go_enter Tryz.func221, Tryz.ntmps221
    go_wp2_with (go_at_call 222; refine (formed_at HS.out HF.out _).mono ?_; rintro e' w' ⟨rfl, rfl⟩)
    go_ret2
    obtain ⟨rfl, rfl⟩ := Prod.mk.inj HK.out
    exact ⟨rfl, rfl⟩
  ·have HK : Hid ((0, 9) = (k, e)) := by rw [← HV.out, vminor_version HF.out (HB5.out ▸ h5)]; exact rfl
   have h5' : (b5 == 49) = false := by simpa using h5
   go_enter Tryz.func221, Tryz.ntmps221
   go_wp2_with (go_at_call 222; refine (formed_at HS.out HF.out _).mono ?_; rintro e' w' ⟨rfl, rfl⟩)
   go_ret2
   obtain ⟨rfl, rfl⟩ := Prod.mk.inj HK.out
   exact ⟨rfl, rfl⟩
end Go.Proofs.YtaojfiegnebbdaaGreatDoor
-- StartC
namespace Go.Proofs.YtaojfiegnebbdaaGreatDoor
open Go.RowKit
end Go.Proofs.YtaojfiegnebbdaaGreatDoor
-- NumberW
namespace Go.Proofs.YtaojfiegnebbdaaGreatDoor
open Go.RowKit
theorem index_at (s : ByteArray) (k : Nat) (h : k < s.size) {b : Int} (hb : b = bt s k) (W : World) : (Instr.index 9 (.string s) (.int .i64 (k : Int))).run Tryz.prog W = .ok (.int .u8 b) W := by rw [hb]; exact index_bt s k h W
end Go.Proofs.YtaojfiegnebbdaaGreatDoor
-- Status
namespace Go.Proofs.YtaojfiegnebbdaaGreatDoor
open Go.RowKit
def hd8 (s : ByteArray) : ByteArray := s.extract 0 8
def mid3 (s : ByteArray) : ByteArray := s.extract 9 12
def rest13 (s : ByteArray) : ByteArray := s.extract (min 13 s.size) s.size
def statForm (s : ByteArray) : Bool := decide (12 ≤ s.size) && (decide (bt s 8 = 32) && ((decide (s.size = 12) || decide (bt s 12 = 32)) && (vform (hd8 s) && (isDg (bt s 9) && (isDg (bt s 10) && isDg (bt s 11))))))
def statRes (s : ByteArray) : (Int × Int × ByteArray) × Int :=
 if statForm s = false then ((0, 0, ⟨#[]⟩), 3)
 else if (vminor (hd8 s)).2 ≠ 0 then ((0, 0, ⟨#[]⟩), (vminor (hd8 s)).2)
 else if numV 10 (mid3 s).data.toList < 100 ∨ 599 < numV 10 (mid3 s).data.toList then ((0, 0, ⟨#[]⟩), 12)
 else if valL (rest13 s).data.toList = false then ((0, 0, ⟨#[]⟩), 7)
 else (((vminor (hd8 s)).1, numV 10 (mid3 s).data.toList, rest13 s), 0)
theorem formed8_at {s : ByteArray} (hs : s.size ≤ 9223372036854775807) {p : Bool} (h : vform (hd8 s) = p) (w : World) : Calls Tryz.prog 222 #[.string (s.extract 0 8)] w fun e w' => e = .returned (.bool p) ∧ w = w' :=
 formed_at (s := s.extract 0 8) (by simp; omega) h w
theorem dec3_at {s : ByteArray} (hs : s.size ≤ 9223372036854775807) {n e : Int} (h : numRes (mid3 s).data.toList 10 999 = (n, e)) (w : World) : Calls Tryz.prog 125 #[.string (s.extract 9 12), .int .i64 999] w fun r w' => r = .returned (.tuple #[.int .i64 n, .int .i64 e]) ∧ Below w.heap.size w w' :=
 dec_any (mid3 s) 999 (by unfold mid3; simp; omega) (by decide) (by decide) n e h w
theorem minor8_at {s : ByteArray} (hs : s.size ≤ 9223372036854775807) {k f : Int} (h : vminor (hd8 s) = (k, f)) (w : World) : Calls Tryz.prog 221 #[.string (s.extract 0 8)] w fun r w' => r = .returned (.tuple #[.int .i64 k, .int .i64 f]) ∧ w = w' :=
 minor_any (hd8 s) (by unfold hd8; simp; omega) h w
theorem value13_at {s : ByteArray} (hs : s.size ≤ 9223372036854775807) {x : ByteArray} (hx : x = rest13 s) {p : Bool} (h : valL (rest13 s).data.toList = p) (w : World) : Calls Tryz.prog 107 #[.string x] w fun r w' => r = .returned (.bool p) ∧ Below w.heap.size w w' := by
 subst h hx
 exact value_any (rest13 s) (by unfold rest13; simp; omega) w
def headZ : Array Value := #[.string ⟨#[]⟩, .string ⟨#[]⟩, .int .i64 0, .int .i64 0, .string ⟨#[]⟩, .slice none 0 0]
def headW (w : World) (g : Nat) (k n : Int) (r : ByteArray) : World := (((((w.setCell ⟨g, 0, none⟩ (.string ⟨#[]⟩)).setCell ⟨g, 1, none⟩ (.string ⟨#[]⟩)).setCell ⟨g, 2, none⟩ (.int .i64 k)).setCell ⟨g, 3, none⟩ (.int .i64 n)).setCell ⟨g, 4, none⟩ (.string r)).setCell ⟨g, 5, none⟩ (.slice none 0 0)
theorem headW_blk {w : World} {g : Nat} {t : TypeId} (h : Blk w g headZ t) (k n : Int) (r : ByteArray) : Blk (headW w g k n r) g #[.string ⟨#[]⟩, .string ⟨#[]⟩, .int .i64 k, .int .i64 n, .string r, .slice none 0 0] t :=
 (((((h.set 0 (.string ⟨#[]⟩)).set 1 (.string ⟨#[]⟩)).set 2 (.int .i64 k)).set 3 (.int .i64 n)).set 4 (.string r)).set 5 (.slice none 0 0)
theorem headW_below {w w0 : World} (h : Below w0.heap.size w0 w) (k n : Int) (r : ByteArray) : Below w0.heap.size w0 (headW w w0.heap.size k n r) :=
 (((((h.setCell (nR _) _).setCell (nR _) _).setCell (nR _) _).setCell (nR _) _).setCell (nR _) _).setCell (nR _) _
theorem status_A (s : ByteArray) (hs : s.size ≤ 100000) (w : World) (hsz : s.size < 12) :
 Calls Tryz.prog 199 #[.string s] w fun o w' => o = .returned (.tuple #[.agg #[.string ⟨#[]⟩, .string ⟨#[]⟩, .int .i64 0, .int .i64 0, .string (⟨#[]⟩), .slice none 0 0], .int .i64 3]) ∧ Below w.heap.size w w' := by
 have hsi : (s.size : Int) ≤ 100000 := by omega
 have hlt : (s.size : Int) < 12 := by omega
 have hS : Hid (s.size ≤ 9223372036854775807) := by show s.size ≤ 9223372036854775807; omega
 clear hs
 go_enter Tryz.func199, Tryz.ntmps199
 go_wp2_with fail
 have q := Blk.new w #[.string ⟨#[]⟩, .string ⟨#[]⟩, .int .i64 0, .int .i64 0, .string ⟨#[]⟩, .slice none 0 0] 34
 have u := (Below.refl w.heap.size w).alloc (nR _) (.cells #[.string ⟨#[]⟩, .string ⟨#[]⟩, .int .i64 0, .int .i64 0, .string ⟨#[]⟩, .slice none 0 0] 34)
 obtain ⟨Wf, hWf⟩ : ∃ Wf, Wf = w.alloc (.cells #[.string ⟨#[]⟩, .string ⟨#[]⟩, .int .i64 0, .int .i64 0, .string ⟨#[]⟩, .slice none 0 0] 34) := ⟨_, rfl⟩
 rw [← hWf] at q u
 rw [← hWf]
 obtain ⟨q0, q1, q2, q3, q4, q5⟩ := bc6 q 0 1 2 3 4 5
 simp only [List.getElem?_toArray, List.getElem?_cons_zero, List.getElem?_cons_succ] at q0 q1 q2 q3 q4 q5
 exact bodyPost_ret (v := .tuple #[.agg #[.string ⟨#[]⟩, .string ⟨#[]⟩, .int .i64 0, .int .i64 0, .string (⟨#[]⟩), .slice none 0 0], .int .i64 3]) (by simp [results, Tryz.results199, go_sem, q0, q1, q2, q3, q4, q5]) rfl ⟨rfl, u⟩
theorem status_B (s : ByteArray) (hs : s.size ≤ 100000) (w : World) (hsz : 12 ≤ s.size) (h8 : bt s 8 ≠ 32) :
 Calls Tryz.prog 199 #[.string s] w fun o w' => o = .returned (.tuple #[.agg #[.string ⟨#[]⟩, .string ⟨#[]⟩, .int .i64 0, .int .i64 0, .string (⟨#[]⟩), .slice none 0 0], .int .i64 3]) ∧ Below w.heap.size w w' := by
 have hsi : (s.size : Int) ≤ 100000 := by omega
 have hsj : (12 : Int) ≤ s.size := by omega
 have hlt : decide ((s.size : Int) < 12) = false := by rw [decide_eq_false_iff_not]; omega
 obtain ⟨b8, hb8⟩ : ∃ b, b = bt s 8 := ⟨_, rfl⟩
 have i8 : ∀ W : World, (Instr.index 9 (.string s) (.int .i64 8)).run Tryz.prog W = .ok (.int .u8 b8) W := index_at s 8 (by omega) hb8
 rw [← hb8] at h8
 have n8 : (b8 == 32) = false := by rw [beq_eq_false_iff_ne]; exact h8
 have m8 : (b8 != 32) = true := by rw [bne_iff_ne]; exact h8
 have d8 : decide (b8 = 32) = false := dF h8
 clear hb8
 have hS : Hid (s.size ≤ 9223372036854775807) := by show s.size ≤ 9223372036854775807; omega
 clear hs
 go_enter Tryz.func199, Tryz.ntmps199
 go_wp2_with fail
 have q := Blk.new w #[.string ⟨#[]⟩, .string ⟨#[]⟩, .int .i64 0, .int .i64 0, .string ⟨#[]⟩, .slice none 0 0] 34
 have u := (Below.refl w.heap.size w).alloc (nR _) (.cells #[.string ⟨#[]⟩, .string ⟨#[]⟩, .int .i64 0, .int .i64 0, .string ⟨#[]⟩, .slice none 0 0] 34)
 obtain ⟨Wf, hWf⟩ : ∃ Wf, Wf = w.alloc (.cells #[.string ⟨#[]⟩, .string ⟨#[]⟩, .int .i64 0, .int .i64 0, .string ⟨#[]⟩, .slice none 0 0] 34) := ⟨_, rfl⟩
 rw [← hWf] at q u
 rw [← hWf]
 obtain ⟨q0, q1, q2, q3, q4, q5⟩ := bc6 q 0 1 2 3 4 5
 simp only [List.getElem?_toArray, List.getElem?_cons_zero, List.getElem?_cons_succ] at q0 q1 q2 q3 q4 q5
 exact bodyPost_ret (v := .tuple #[.agg #[.string ⟨#[]⟩, .string ⟨#[]⟩, .int .i64 0, .int .i64 0, .string (⟨#[]⟩), .slice none 0 0], .int .i64 3]) (by simp [results, Tryz.results199, go_sem, q0, q1, q2, q3, q4, q5]) rfl ⟨rfl, u⟩
theorem status_C (s : ByteArray) (hs : s.size ≤ 100000) (w : World) (hsz : 13 ≤ s.size) (h8 : bt s 8 = 32) (h12 : bt s 12 ≠ 32) :
 Calls Tryz.prog 199 #[.string s] w fun o w' => o = .returned (.tuple #[.agg #[.string ⟨#[]⟩, .string ⟨#[]⟩, .int .i64 0, .int .i64 0, .string (⟨#[]⟩), .slice none 0 0], .int .i64 3]) ∧ Below w.heap.size w w' := by
 have hsi : (s.size : Int) ≤ 100000 := by omega
 have hsj : (12 : Int) ≤ s.size := by omega
 have hlt : decide ((s.size : Int) < 12) = false := by rw [decide_eq_false_iff_not]; omega
 have hsk : (12 : Int) < s.size := by omega
 have hmin : min 13 (s.size : Int) = 13 := by omega
 have i8 : ∀ W : World, (Instr.index 9 (.string s) (.int .i64 8)).run Tryz.prog W = .ok (.int .u8 32) W := index_at s 8 (by omega) h8.symm
 obtain ⟨b12, hb12⟩ : ∃ b, b = bt s 12 := ⟨_, rfl⟩
 have i12 : ∀ W : World, (Instr.index 9 (.string s) (.int .i64 12)).run Tryz.prog W = .ok (.int .u8 b12) W := index_at s 12 (by omega) hb12
 rw [← hb12] at h12
 have n12 : (b12 == 32) = false := by rw [beq_eq_false_iff_ne]; exact h12
 have m12 : (b12 != 32) = true := by rw [bne_iff_ne]; exact h12
 have d12 : decide (b12 = 32) = false := dF h12
 clear hb12
 have hS : Hid (s.size ≤ 9223372036854775807) := by show s.size ≤ 9223372036854775807; omega
 clear hs h8
 go_enter Tryz.func199, Tryz.ntmps199
 go_wp2_with fail
 have q := Blk.new w #[.string ⟨#[]⟩, .string ⟨#[]⟩, .int .i64 0, .int .i64 0, .string ⟨#[]⟩, .slice none 0 0] 34
 have u := (Below.refl w.heap.size w).alloc (nR _) (.cells #[.string ⟨#[]⟩, .string ⟨#[]⟩, .int .i64 0, .int .i64 0, .string ⟨#[]⟩, .slice none 0 0] 34)
 obtain ⟨Wf, hWf⟩ : ∃ Wf, Wf = w.alloc (.cells #[.string ⟨#[]⟩, .string ⟨#[]⟩, .int .i64 0, .int .i64 0, .string ⟨#[]⟩, .slice none 0 0] 34) := ⟨_, rfl⟩
 rw [← hWf] at q u
 rw [← hWf]
 obtain ⟨q0, q1, q2, q3, q4, q5⟩ := bc6 q 0 1 2 3 4 5
 simp only [List.getElem?_toArray, List.getElem?_cons_zero, List.getElem?_cons_succ] at q0 q1 q2 q3 q4 q5
 exact bodyPost_ret (v := .tuple #[.agg #[.string ⟨#[]⟩, .string ⟨#[]⟩, .int .i64 0, .int .i64 0, .string (⟨#[]⟩), .slice none 0 0], .int .i64 3]) (by simp [results, Tryz.results199, go_sem, q0, q1, q2, q3, q4, q5]) rfl ⟨rfl, u⟩
theorem status_D12 (s : ByteArray) (hs : s.size ≤ 100000) (w : World) (hsz : s.size = 12) (h8 : bt s 8 = 32) (hf : vform (hd8 s) = false) :
 Calls Tryz.prog 199 #[.string s] w fun o w' => o = .returned (.tuple #[.agg #[.string ⟨#[]⟩, .string ⟨#[]⟩, .int .i64 0, .int .i64 0, .string (⟨#[]⟩), .slice none 0 0], .int .i64 3]) ∧ Below w.heap.size w w' := by
 have hsi : (s.size : Int) ≤ 100000 := by omega
 have hsj : (12 : Int) ≤ s.size := by omega
 have hlt : decide ((s.size : Int) < 12) = false := by rw [decide_eq_false_iff_not]; omega
 have hsk : decide ((12 : Int) < s.size) = false := by rw [decide_eq_false_iff_not]; omega
 have hmin : min 13 (s.size : Int) = 12 := by omega
 have i8 : ∀ W : World, (Instr.index 9 (.string s) (.int .i64 8)).run Tryz.prog W = .ok (.int .u8 32) W := index_at s 8 (by omega) h8.symm
 have hS : Hid (s.size ≤ 9223372036854775807) := by show s.size ≤ 9223372036854775807; omega
 have HF := lH hf
 clear hs h8 hf
 go_enter Tryz.func199, Tryz.ntmps199
 go_wp2_with (first
  | (go_at_call 222; refine (formed8_at hS.out HF.out _).mono ?_; rintro e' w' ⟨rfl, rfl⟩))
 have q := Blk.new w #[.string ⟨#[]⟩, .string ⟨#[]⟩, .int .i64 0, .int .i64 0, .string ⟨#[]⟩, .slice none 0 0] 34
 have u := (Below.refl w.heap.size w).alloc (nR _) (.cells #[.string ⟨#[]⟩, .string ⟨#[]⟩, .int .i64 0, .int .i64 0, .string ⟨#[]⟩, .slice none 0 0] 34)
 obtain ⟨Wf, hWf⟩ : ∃ Wf, Wf = w.alloc (.cells #[.string ⟨#[]⟩, .string ⟨#[]⟩, .int .i64 0, .int .i64 0, .string ⟨#[]⟩, .slice none 0 0] 34) := ⟨_, rfl⟩
 rw [← hWf] at q u
 rw [← hWf]
 obtain ⟨q0, q1, q2, q3, q4, q5⟩ := bc6 q 0 1 2 3 4 5
 simp only [List.getElem?_toArray, List.getElem?_cons_zero, List.getElem?_cons_succ] at q0 q1 q2 q3 q4 q5
 exact bodyPost_ret (v := .tuple #[.agg #[.string ⟨#[]⟩, .string ⟨#[]⟩, .int .i64 0, .int .i64 0, .string (⟨#[]⟩), .slice none 0 0], .int .i64 3]) (by simp [results, Tryz.results199, go_sem, q0, q1, q2, q3, q4, q5]) rfl ⟨rfl, u⟩
theorem status_D13 (s : ByteArray) (hs : s.size ≤ 100000) (w : World) (hsz : 13 ≤ s.size) (h8 : bt s 8 = 32) (h12 : bt s 12 = 32) (hf : vform (hd8 s) = false) :
 Calls Tryz.prog 199 #[.string s] w fun o w' => o = .returned (.tuple #[.agg #[.string ⟨#[]⟩, .string ⟨#[]⟩, .int .i64 0, .int .i64 0, .string (⟨#[]⟩), .slice none 0 0], .int .i64 3]) ∧ Below w.heap.size w w' := by
 have hsi : (s.size : Int) ≤ 100000 := by omega
 have hsj : (12 : Int) ≤ s.size := by omega
 have hlt : decide ((s.size : Int) < 12) = false := by rw [decide_eq_false_iff_not]; omega
 have hsk : (12 : Int) < s.size := by omega
 have hmin : min 13 (s.size : Int) = 13 := by omega
 have i8 : ∀ W : World, (Instr.index 9 (.string s) (.int .i64 8)).run Tryz.prog W = .ok (.int .u8 32) W := index_at s 8 (by omega) h8.symm
 have i12 : ∀ W : World, (Instr.index 9 (.string s) (.int .i64 12)).run Tryz.prog W = .ok (.int .u8 32) W := index_at s 12 (by omega) h12.symm
 have hS : Hid (s.size ≤ 9223372036854775807) := by show s.size ≤ 9223372036854775807; omega
 have HF := lH hf
 clear hs h8 h12 hf
 go_enter Tryz.func199, Tryz.ntmps199
 go_wp2_with (first
  | (go_at_call 222; refine (formed8_at hS.out HF.out _).mono ?_; rintro e' w' ⟨rfl, rfl⟩))
 have q := Blk.new w #[.string ⟨#[]⟩, .string ⟨#[]⟩, .int .i64 0, .int .i64 0, .string ⟨#[]⟩, .slice none 0 0] 34
 have u := (Below.refl w.heap.size w).alloc (nR _) (.cells #[.string ⟨#[]⟩, .string ⟨#[]⟩, .int .i64 0, .int .i64 0, .string ⟨#[]⟩, .slice none 0 0] 34)
 obtain ⟨Wf, hWf⟩ : ∃ Wf, Wf = w.alloc (.cells #[.string ⟨#[]⟩, .string ⟨#[]⟩, .int .i64 0, .int .i64 0, .string ⟨#[]⟩, .slice none 0 0] 34) := ⟨_, rfl⟩
 rw [← hWf] at q u
 rw [← hWf]
 obtain ⟨q0, q1, q2, q3, q4, q5⟩ := bc6 q 0 1 2 3 4 5
 simp only [List.getElem?_toArray, List.getElem?_cons_zero, List.getElem?_cons_succ] at q0 q1 q2 q3 q4 q5
 exact bodyPost_ret (v := .tuple #[.agg #[.string ⟨#[]⟩, .string ⟨#[]⟩, .int .i64 0, .int .i64 0, .string (⟨#[]⟩), .slice none 0 0], .int .i64 3]) (by simp [results, Tryz.results199, go_sem, q0, q1, q2, q3, q4, q5]) rfl ⟨rfl, u⟩
theorem status_E12 (s : ByteArray) (hs : s.size ≤ 100000) (w : World) (hsz : s.size = 12) (h8 : bt s 8 = 32) (hf : vform (hd8 s) = true) {n' e' : Int} (hn : numRes (mid3 s).data.toList 10 999 = (n', e')) (he : e' ≠ 0) :
 Calls Tryz.prog 199 #[.string s] w fun o w' => o = .returned (.tuple #[.agg #[.string ⟨#[]⟩, .string ⟨#[]⟩, .int .i64 0, .int .i64 0, .string (⟨#[]⟩), .slice none 0 0], .int .i64 3]) ∧ Below w.heap.size w w' := by
 have hsi : (s.size : Int) ≤ 100000 := by omega
 have hsj : (12 : Int) ≤ s.size := by omega
 have hlt : decide ((s.size : Int) < 12) = false := by rw [decide_eq_false_iff_not]; omega
 have hsk : decide ((12 : Int) < s.size) = false := by rw [decide_eq_false_iff_not]; omega
 have hmin : min 13 (s.size : Int) = 12 := by omega
 have i8 : ∀ W : World, (Instr.index 9 (.string s) (.int .i64 8)).run Tryz.prog W = .ok (.int .u8 32) W := index_at s 8 (by omega) h8.symm
 have ne : (e' == 0) = false := by rw [beq_eq_false_iff_ne]; exact he
 have hS : Hid (s.size ≤ 9223372036854775807) := by show s.size ≤ 9223372036854775807; omega
 have HF := lH hf
 have HN := lH hn
 clear hs h8 hf he hn
 go_enter Tryz.func199, Tryz.ntmps199
 go_wp2_with (first
  | (go_at_call 222; refine (formed8_at hS.out HF.out _).mono ?_; rintro e' w' ⟨rfl, rfl⟩)
  | (go_at_call 125; refine (dec3_at hS.out HN.out _).mono ?_; rintro r' w2 ⟨rfl, b2⟩; have k2 := lH ((Blk.new w headZ 34).call b2); have u2 := lH (((Below.refl w.heap.size w).alloc (nR _) (.cells headZ 34)).trans (b2.mono (by simp))); clear b2; have c0 : w2.cell? ⟨w.heap.size, 0, none⟩ = some (.string ⟨#[]⟩) := k2.out.cell 0; have c1 : w2.cell? ⟨w.heap.size, 1, none⟩ = some (.string ⟨#[]⟩) := k2.out.cell 1; have c2 : w2.cell? ⟨w.heap.size, 2, none⟩ = some (.int .i64 0) := k2.out.cell 2; have c3 : w2.cell? ⟨w.heap.size, 3, none⟩ = some (.int .i64 0) := k2.out.cell 3; have c4 : w2.cell? ⟨w.heap.size, 4, none⟩ = some (.string ⟨#[]⟩) := k2.out.cell 4; have c5 : w2.cell? ⟨w.heap.size, 5, none⟩ = some (.slice none 0 0) := k2.out.cell 5; have f0 : w2.frozen? ⟨w.heap.size, 0, none⟩ = false := k2.out.froz 0; have f1 : w2.frozen? ⟨w.heap.size, 1, none⟩ = false := k2.out.froz 1; have f2 : w2.frozen? ⟨w.heap.size, 2, none⟩ = false := k2.out.froz 2; have f3 : w2.frozen? ⟨w.heap.size, 3, none⟩ = false := k2.out.froz 3; have f4 : w2.frozen? ⟨w.heap.size, 4, none⟩ = false := k2.out.froz 4; have f5 : w2.frozen? ⟨w.heap.size, 5, none⟩ = false := k2.out.froz 5))
 have q := headW_blk k2.out 0 0 (⟨#[]⟩)
 have u := headW_below u2.out 0 0 (⟨#[]⟩)
 obtain ⟨Wf, hWf⟩ : ∃ Wf, Wf = headW w2 w.heap.size 0 0 (⟨#[]⟩) := ⟨_, rfl⟩
 have q : Blk Wf w.heap.size #[.string ⟨#[]⟩, .string ⟨#[]⟩, .int .i64 0, .int .i64 0, .string (⟨#[]⟩), .slice none 0 0] 34 := by rw [hWf]; exact q
 have u : Below w.heap.size w Wf := by rw [hWf]; exact u
 have hWf' : (((((w2.setCell ⟨w.heap.size, 0, none⟩ (.string ⟨#[]⟩)).setCell ⟨w.heap.size, 1, none⟩ (.string ⟨#[]⟩)).setCell ⟨w.heap.size, 2, none⟩ (.int .i64 0)).setCell ⟨w.heap.size, 3, none⟩ (.int .i64 0)).setCell ⟨w.heap.size, 4, none⟩ (.string (⟨#[]⟩))).setCell ⟨w.heap.size, 5, none⟩ (.slice none 0 0) = Wf := hWf.symm
 rw [hWf']
 obtain ⟨q0, q1, q2, q3, q4, q5⟩ := bc6 q 0 1 2 3 4 5
 simp only [List.getElem?_toArray, List.getElem?_cons_zero, List.getElem?_cons_succ] at q0 q1 q2 q3 q4 q5
 exact bodyPost_ret (v := .tuple #[.agg #[.string ⟨#[]⟩, .string ⟨#[]⟩, .int .i64 0, .int .i64 0, .string (⟨#[]⟩), .slice none 0 0], .int .i64 3]) (by simp [results, Tryz.results199, go_sem, q0, q1, q2, q3, q4, q5]) rfl ⟨rfl, u⟩
theorem status_E13 (s : ByteArray) (hs : s.size ≤ 100000) (w : World) (hsz : 13 ≤ s.size) (h8 : bt s 8 = 32) (h12 : bt s 12 = 32) (hf : vform (hd8 s) = true) {n' e' : Int} (hn : numRes (mid3 s).data.toList 10 999 = (n', e')) (he : e' ≠ 0) :
 Calls Tryz.prog 199 #[.string s] w fun o w' => o = .returned (.tuple #[.agg #[.string ⟨#[]⟩, .string ⟨#[]⟩, .int .i64 0, .int .i64 0, .string (⟨#[]⟩), .slice none 0 0], .int .i64 3]) ∧ Below w.heap.size w w' := by
 have hsi : (s.size : Int) ≤ 100000 := by omega
 have hsj : (12 : Int) ≤ s.size := by omega
 have hlt : decide ((s.size : Int) < 12) = false := by rw [decide_eq_false_iff_not]; omega
 have hsk : (12 : Int) < s.size := by omega
 have hmin : min 13 (s.size : Int) = 13 := by omega
 have i8 : ∀ W : World, (Instr.index 9 (.string s) (.int .i64 8)).run Tryz.prog W = .ok (.int .u8 32) W := index_at s 8 (by omega) h8.symm
 have i12 : ∀ W : World, (Instr.index 9 (.string s) (.int .i64 12)).run Tryz.prog W = .ok (.int .u8 32) W := index_at s 12 (by omega) h12.symm
 have ne : (e' == 0) = false := by rw [beq_eq_false_iff_ne]; exact he
 have hS : Hid (s.size ≤ 9223372036854775807) := by show s.size ≤ 9223372036854775807; omega
 have HF := lH hf
 have HN := lH hn
 clear hs h8 h12 hf he hn
 go_enter Tryz.func199, Tryz.ntmps199
 go_wp2_with (first
  | (go_at_call 222; refine (formed8_at hS.out HF.out _).mono ?_; rintro e' w' ⟨rfl, rfl⟩)
  | (go_at_call 125; refine (dec3_at hS.out HN.out _).mono ?_; rintro r' w2 ⟨rfl, b2⟩; have k2 := lH ((Blk.new w headZ 34).call b2); have u2 := lH (((Below.refl w.heap.size w).alloc (nR _) (.cells headZ 34)).trans (b2.mono (by simp))); clear b2; have c0 : w2.cell? ⟨w.heap.size, 0, none⟩ = some (.string ⟨#[]⟩) := k2.out.cell 0; have c1 : w2.cell? ⟨w.heap.size, 1, none⟩ = some (.string ⟨#[]⟩) := k2.out.cell 1; have c2 : w2.cell? ⟨w.heap.size, 2, none⟩ = some (.int .i64 0) := k2.out.cell 2; have c3 : w2.cell? ⟨w.heap.size, 3, none⟩ = some (.int .i64 0) := k2.out.cell 3; have c4 : w2.cell? ⟨w.heap.size, 4, none⟩ = some (.string ⟨#[]⟩) := k2.out.cell 4; have c5 : w2.cell? ⟨w.heap.size, 5, none⟩ = some (.slice none 0 0) := k2.out.cell 5; have f0 : w2.frozen? ⟨w.heap.size, 0, none⟩ = false := k2.out.froz 0; have f1 : w2.frozen? ⟨w.heap.size, 1, none⟩ = false := k2.out.froz 1; have f2 : w2.frozen? ⟨w.heap.size, 2, none⟩ = false := k2.out.froz 2; have f3 : w2.frozen? ⟨w.heap.size, 3, none⟩ = false := k2.out.froz 3; have f4 : w2.frozen? ⟨w.heap.size, 4, none⟩ = false := k2.out.froz 4; have f5 : w2.frozen? ⟨w.heap.size, 5, none⟩ = false := k2.out.froz 5))
 have q := headW_blk k2.out 0 0 (⟨#[]⟩)
 have u := headW_below u2.out 0 0 (⟨#[]⟩)
 obtain ⟨Wf, hWf⟩ : ∃ Wf, Wf = headW w2 w.heap.size 0 0 (⟨#[]⟩) := ⟨_, rfl⟩
 have q : Blk Wf w.heap.size #[.string ⟨#[]⟩, .string ⟨#[]⟩, .int .i64 0, .int .i64 0, .string (⟨#[]⟩), .slice none 0 0] 34 := by rw [hWf]; exact q
 have u : Below w.heap.size w Wf := by rw [hWf]; exact u
 have hWf' : (((((w2.setCell ⟨w.heap.size, 0, none⟩ (.string ⟨#[]⟩)).setCell ⟨w.heap.size, 1, none⟩ (.string ⟨#[]⟩)).setCell ⟨w.heap.size, 2, none⟩ (.int .i64 0)).setCell ⟨w.heap.size, 3, none⟩ (.int .i64 0)).setCell ⟨w.heap.size, 4, none⟩ (.string (⟨#[]⟩))).setCell ⟨w.heap.size, 5, none⟩ (.slice none 0 0) = Wf := hWf.symm
 rw [hWf']
 obtain ⟨q0, q1, q2, q3, q4, q5⟩ := bc6 q 0 1 2 3 4 5
 simp only [List.getElem?_toArray, List.getElem?_cons_zero, List.getElem?_cons_succ] at q0 q1 q2 q3 q4 q5
 exact bodyPost_ret (v := .tuple #[.agg #[.string ⟨#[]⟩, .string ⟨#[]⟩, .int .i64 0, .int .i64 0, .string (⟨#[]⟩), .slice none 0 0], .int .i64 3]) (by simp [results, Tryz.results199, go_sem, q0, q1, q2, q3, q4, q5]) rfl ⟨rfl, u⟩
theorem status_F12 (s : ByteArray) (hs : s.size ≤ 100000) (w : World) (hsz : s.size = 12) (h8 : bt s 8 = 32) (hf : vform (hd8 s) = true) {n : Int} (hn : numRes (mid3 s).data.toList 10 999 = (n, 0)) {k' f : Int} (hk : vminor (hd8 s) = (k', f)) (hfe : f ≠ 0) :
 Calls Tryz.prog 199 #[.string s] w fun o w' => o = .returned (.tuple #[.agg #[.string ⟨#[]⟩, .string ⟨#[]⟩, .int .i64 0, .int .i64 0, .string (⟨#[]⟩), .slice none 0 0], .int .i64 f]) ∧ Below w.heap.size w w' := by
 have hsi : (s.size : Int) ≤ 100000 := by omega
 have hsj : (12 : Int) ≤ s.size := by omega
 have hlt : decide ((s.size : Int) < 12) = false := by rw [decide_eq_false_iff_not]; omega
 have hsk : decide ((12 : Int) < s.size) = false := by rw [decide_eq_false_iff_not]; omega
 have hmin : min 13 (s.size : Int) = 12 := by omega
 have i8 : ∀ W : World, (Instr.index 9 (.string s) (.int .i64 8)).run Tryz.prog W = .ok (.int .u8 32) W := index_at s 8 (by omega) h8.symm
 have nf : (f == 0) = false := by rw [beq_eq_false_iff_ne]; exact hfe
 have hS : Hid (s.size ≤ 9223372036854775807) := by show s.size ≤ 9223372036854775807; omega
 have HF := lH hf
 have HN := lH hn
 have HK := lH hk
 clear hs h8 hf hn hfe hk
 go_enter Tryz.func199, Tryz.ntmps199
 go_wp2_with (first
  | (go_at_call 222; refine (formed8_at hS.out HF.out _).mono ?_; rintro e' w' ⟨rfl, rfl⟩)
  | (go_at_call 125; refine (dec3_at hS.out HN.out _).mono ?_; rintro r' w2 ⟨rfl, b2⟩; have k2 := lH ((Blk.new w headZ 34).call b2); have u2 := lH (((Below.refl w.heap.size w).alloc (nR _) (.cells headZ 34)).trans (b2.mono (by simp))); clear b2; have c0 : w2.cell? ⟨w.heap.size, 0, none⟩ = some (.string ⟨#[]⟩) := k2.out.cell 0; have c1 : w2.cell? ⟨w.heap.size, 1, none⟩ = some (.string ⟨#[]⟩) := k2.out.cell 1; have c2 : w2.cell? ⟨w.heap.size, 2, none⟩ = some (.int .i64 0) := k2.out.cell 2; have c3 : w2.cell? ⟨w.heap.size, 3, none⟩ = some (.int .i64 0) := k2.out.cell 3; have c4 : w2.cell? ⟨w.heap.size, 4, none⟩ = some (.string ⟨#[]⟩) := k2.out.cell 4; have c5 : w2.cell? ⟨w.heap.size, 5, none⟩ = some (.slice none 0 0) := k2.out.cell 5; have f0 : w2.frozen? ⟨w.heap.size, 0, none⟩ = false := k2.out.froz 0; have f1 : w2.frozen? ⟨w.heap.size, 1, none⟩ = false := k2.out.froz 1; have f2 : w2.frozen? ⟨w.heap.size, 2, none⟩ = false := k2.out.froz 2; have f3 : w2.frozen? ⟨w.heap.size, 3, none⟩ = false := k2.out.froz 3; have f4 : w2.frozen? ⟨w.heap.size, 4, none⟩ = false := k2.out.froz 4; have f5 : w2.frozen? ⟨w.heap.size, 5, none⟩ = false := k2.out.froz 5)
  | (go_at_call 221; refine (minor8_at hS.out HK.out _).mono ?_; rintro r' w' ⟨rfl, rfl⟩))
 have q := headW_blk k2.out 0 0 (⟨#[]⟩)
 have u := headW_below u2.out 0 0 (⟨#[]⟩)
 obtain ⟨Wf, hWf⟩ : ∃ Wf, Wf = headW w2 w.heap.size 0 0 (⟨#[]⟩) := ⟨_, rfl⟩
 have q : Blk Wf w.heap.size #[.string ⟨#[]⟩, .string ⟨#[]⟩, .int .i64 0, .int .i64 0, .string (⟨#[]⟩), .slice none 0 0] 34 := by rw [hWf]; exact q
 have u : Below w.heap.size w Wf := by rw [hWf]; exact u
 have hWf' : (((((w2.setCell ⟨w.heap.size, 0, none⟩ (.string ⟨#[]⟩)).setCell ⟨w.heap.size, 1, none⟩ (.string ⟨#[]⟩)).setCell ⟨w.heap.size, 2, none⟩ (.int .i64 0)).setCell ⟨w.heap.size, 3, none⟩ (.int .i64 0)).setCell ⟨w.heap.size, 4, none⟩ (.string (⟨#[]⟩))).setCell ⟨w.heap.size, 5, none⟩ (.slice none 0 0) = Wf := hWf.symm
 rw [hWf']
 obtain ⟨q0, q1, q2, q3, q4, q5⟩ := bc6 q 0 1 2 3 4 5
 simp only [List.getElem?_toArray, List.getElem?_cons_zero, List.getElem?_cons_succ] at q0 q1 q2 q3 q4 q5
 exact bodyPost_ret (v := .tuple #[.agg #[.string ⟨#[]⟩, .string ⟨#[]⟩, .int .i64 0, .int .i64 0, .string (⟨#[]⟩), .slice none 0 0], .int .i64 f]) (by simp [results, Tryz.results199, go_sem, q0, q1, q2, q3, q4, q5]) rfl ⟨rfl, u⟩
theorem status_F13 (s : ByteArray) (hs : s.size ≤ 100000) (w : World) (hsz : 13 ≤ s.size) (h8 : bt s 8 = 32) (h12 : bt s 12 = 32) (hf : vform (hd8 s) = true) {n : Int} (hn : numRes (mid3 s).data.toList 10 999 = (n, 0)) {k' f : Int} (hk : vminor (hd8 s) = (k', f)) (hfe : f ≠ 0) :
 Calls Tryz.prog 199 #[.string s] w fun o w' => o = .returned (.tuple #[.agg #[.string ⟨#[]⟩, .string ⟨#[]⟩, .int .i64 0, .int .i64 0, .string (⟨#[]⟩), .slice none 0 0], .int .i64 f]) ∧ Below w.heap.size w w' := by
 have hsi : (s.size : Int) ≤ 100000 := by omega
 have hsj : (12 : Int) ≤ s.size := by omega
 have hlt : decide ((s.size : Int) < 12) = false := by rw [decide_eq_false_iff_not]; omega
 have hsk : (12 : Int) < s.size := by omega
 have hmin : min 13 (s.size : Int) = 13 := by omega
 have i8 : ∀ W : World, (Instr.index 9 (.string s) (.int .i64 8)).run Tryz.prog W = .ok (.int .u8 32) W := index_at s 8 (by omega) h8.symm
 have i12 : ∀ W : World, (Instr.index 9 (.string s) (.int .i64 12)).run Tryz.prog W = .ok (.int .u8 32) W := index_at s 12 (by omega) h12.symm
 have nf : (f == 0) = false := by rw [beq_eq_false_iff_ne]; exact hfe
 have hS : Hid (s.size ≤ 9223372036854775807) := by show s.size ≤ 9223372036854775807; omega
 have HF := lH hf
 have HN := lH hn
 have HK := lH hk
 clear hs h8 h12 hf hn hfe hk
 go_enter Tryz.func199, Tryz.ntmps199
 go_wp2_with (first
  | (go_at_call 222; refine (formed8_at hS.out HF.out _).mono ?_; rintro e' w' ⟨rfl, rfl⟩)
  | (go_at_call 125; refine (dec3_at hS.out HN.out _).mono ?_; rintro r' w2 ⟨rfl, b2⟩; have k2 := lH ((Blk.new w headZ 34).call b2); have u2 := lH (((Below.refl w.heap.size w).alloc (nR _) (.cells headZ 34)).trans (b2.mono (by simp))); clear b2; have c0 : w2.cell? ⟨w.heap.size, 0, none⟩ = some (.string ⟨#[]⟩) := k2.out.cell 0; have c1 : w2.cell? ⟨w.heap.size, 1, none⟩ = some (.string ⟨#[]⟩) := k2.out.cell 1; have c2 : w2.cell? ⟨w.heap.size, 2, none⟩ = some (.int .i64 0) := k2.out.cell 2; have c3 : w2.cell? ⟨w.heap.size, 3, none⟩ = some (.int .i64 0) := k2.out.cell 3; have c4 : w2.cell? ⟨w.heap.size, 4, none⟩ = some (.string ⟨#[]⟩) := k2.out.cell 4; have c5 : w2.cell? ⟨w.heap.size, 5, none⟩ = some (.slice none 0 0) := k2.out.cell 5; have f0 : w2.frozen? ⟨w.heap.size, 0, none⟩ = false := k2.out.froz 0; have f1 : w2.frozen? ⟨w.heap.size, 1, none⟩ = false := k2.out.froz 1; have f2 : w2.frozen? ⟨w.heap.size, 2, none⟩ = false := k2.out.froz 2; have f3 : w2.frozen? ⟨w.heap.size, 3, none⟩ = false := k2.out.froz 3; have f4 : w2.frozen? ⟨w.heap.size, 4, none⟩ = false := k2.out.froz 4; have f5 : w2.frozen? ⟨w.heap.size, 5, none⟩ = false := k2.out.froz 5)
  | (go_at_call 221; refine (minor8_at hS.out HK.out _).mono ?_; rintro r' w' ⟨rfl, rfl⟩))
 have q := headW_blk k2.out 0 0 (⟨#[]⟩)
 have u := headW_below u2.out 0 0 (⟨#[]⟩)
 obtain ⟨Wf, hWf⟩ : ∃ Wf, Wf = headW w2 w.heap.size 0 0 (⟨#[]⟩) := ⟨_, rfl⟩
 have q : Blk Wf w.heap.size #[.string ⟨#[]⟩, .string ⟨#[]⟩, .int .i64 0, .int .i64 0, .string (⟨#[]⟩), .slice none 0 0] 34 := by rw [hWf]; exact q
 have u : Below w.heap.size w Wf := by rw [hWf]; exact u
 have hWf' : (((((w2.setCell ⟨w.heap.size, 0, none⟩ (.string ⟨#[]⟩)).setCell ⟨w.heap.size, 1, none⟩ (.string ⟨#[]⟩)).setCell ⟨w.heap.size, 2, none⟩ (.int .i64 0)).setCell ⟨w.heap.size, 3, none⟩ (.int .i64 0)).setCell ⟨w.heap.size, 4, none⟩ (.string (⟨#[]⟩))).setCell ⟨w.heap.size, 5, none⟩ (.slice none 0 0) = Wf := hWf.symm
 rw [hWf']
 obtain ⟨q0, q1, q2, q3, q4, q5⟩ := bc6 q 0 1 2 3 4 5
 simp only [List.getElem?_toArray, List.getElem?_cons_zero, List.getElem?_cons_succ] at q0 q1 q2 q3 q4 q5
 exact bodyPost_ret (v := .tuple #[.agg #[.string ⟨#[]⟩, .string ⟨#[]⟩, .int .i64 0, .int .i64 0, .string (⟨#[]⟩), .slice none 0 0], .int .i64 f]) (by simp [results, Tryz.results199, go_sem, q0, q1, q2, q3, q4, q5]) rfl ⟨rfl, u⟩
theorem status_G12 (s : ByteArray) (hs : s.size ≤ 100000) (w : World) (hsz : s.size = 12) (h8 : bt s 8 = 32) (hf : vform (hd8 s) = true) {n : Int} (hn : numRes (mid3 s).data.toList 10 999 = (n, 0)) {k : Int} (hk : vminor (hd8 s) = (k, 0)) (hn1 : n < 100) :
 Calls Tryz.prog 199 #[.string s] w fun o w' => o = .returned (.tuple #[.agg #[.string ⟨#[]⟩, .string ⟨#[]⟩, .int .i64 0, .int .i64 0, .string (⟨#[]⟩), .slice none 0 0], .int .i64 12]) ∧ Below w.heap.size w w' := by
 have hsi : (s.size : Int) ≤ 100000 := by omega
 have hsj : (12 : Int) ≤ s.size := by omega
 have hlt : decide ((s.size : Int) < 12) = false := by rw [decide_eq_false_iff_not]; omega
 have hsk : decide ((12 : Int) < s.size) = false := by rw [decide_eq_false_iff_not]; omega
 have hmin : min 13 (s.size : Int) = 12 := by omega
 have i8 : ∀ W : World, (Instr.index 9 (.string s) (.int .i64 8)).run Tryz.prog W = .ok (.int .u8 32) W := index_at s 8 (by omega) h8.symm
 have hS : Hid (s.size ≤ 9223372036854775807) := by show s.size ≤ 9223372036854775807; omega
 have HF := lH hf
 have HN := lH hn
 have HK := lH hk
 clear hs h8 hf hn hk
 go_enter Tryz.func199, Tryz.ntmps199
 go_wp2_with (first
  | (go_at_call 222; refine (formed8_at hS.out HF.out _).mono ?_; rintro e' w' ⟨rfl, rfl⟩)
  | (go_at_call 125; refine (dec3_at hS.out HN.out _).mono ?_; rintro r' w2 ⟨rfl, b2⟩; have k2 := lH ((Blk.new w headZ 34).call b2); have u2 := lH (((Below.refl w.heap.size w).alloc (nR _) (.cells headZ 34)).trans (b2.mono (by simp))); clear b2; have c0 : w2.cell? ⟨w.heap.size, 0, none⟩ = some (.string ⟨#[]⟩) := k2.out.cell 0; have c1 : w2.cell? ⟨w.heap.size, 1, none⟩ = some (.string ⟨#[]⟩) := k2.out.cell 1; have c2 : w2.cell? ⟨w.heap.size, 2, none⟩ = some (.int .i64 0) := k2.out.cell 2; have c3 : w2.cell? ⟨w.heap.size, 3, none⟩ = some (.int .i64 0) := k2.out.cell 3; have c4 : w2.cell? ⟨w.heap.size, 4, none⟩ = some (.string ⟨#[]⟩) := k2.out.cell 4; have c5 : w2.cell? ⟨w.heap.size, 5, none⟩ = some (.slice none 0 0) := k2.out.cell 5; have f0 : w2.frozen? ⟨w.heap.size, 0, none⟩ = false := k2.out.froz 0; have f1 : w2.frozen? ⟨w.heap.size, 1, none⟩ = false := k2.out.froz 1; have f2 : w2.frozen? ⟨w.heap.size, 2, none⟩ = false := k2.out.froz 2; have f3 : w2.frozen? ⟨w.heap.size, 3, none⟩ = false := k2.out.froz 3; have f4 : w2.frozen? ⟨w.heap.size, 4, none⟩ = false := k2.out.froz 4; have f5 : w2.frozen? ⟨w.heap.size, 5, none⟩ = false := k2.out.froz 5)
  | (go_at_call 221; refine (minor8_at hS.out HK.out _).mono ?_; rintro r' w' ⟨rfl, rfl⟩))
 have q := headW_blk k2.out 0 0 (⟨#[]⟩)
 have u := headW_below u2.out 0 0 (⟨#[]⟩)
 obtain ⟨Wf, hWf⟩ : ∃ Wf, Wf = headW w2 w.heap.size 0 0 (⟨#[]⟩) := ⟨_, rfl⟩
 have q : Blk Wf w.heap.size #[.string ⟨#[]⟩, .string ⟨#[]⟩, .int .i64 0, .int .i64 0, .string (⟨#[]⟩), .slice none 0 0] 34 := by rw [hWf]; exact q
 have u : Below w.heap.size w Wf := by rw [hWf]; exact u
 have hWf' : (((((w2.setCell ⟨w.heap.size, 0, none⟩ (.string ⟨#[]⟩)).setCell ⟨w.heap.size, 1, none⟩ (.string ⟨#[]⟩)).setCell ⟨w.heap.size, 2, none⟩ (.int .i64 0)).setCell ⟨w.heap.size, 3, none⟩ (.int .i64 0)).setCell ⟨w.heap.size, 4, none⟩ (.string (⟨#[]⟩))).setCell ⟨w.heap.size, 5, none⟩ (.slice none 0 0) = Wf := hWf.symm
 rw [hWf']
 obtain ⟨q0, q1, q2, q3, q4, q5⟩ := bc6 q 0 1 2 3 4 5
 simp only [List.getElem?_toArray, List.getElem?_cons_zero, List.getElem?_cons_succ] at q0 q1 q2 q3 q4 q5
 exact bodyPost_ret (v := .tuple #[.agg #[.string ⟨#[]⟩, .string ⟨#[]⟩, .int .i64 0, .int .i64 0, .string (⟨#[]⟩), .slice none 0 0], .int .i64 12]) (by simp [results, Tryz.results199, go_sem, q0, q1, q2, q3, q4, q5]) rfl ⟨rfl, u⟩
theorem status_G13 (s : ByteArray) (hs : s.size ≤ 100000) (w : World) (hsz : 13 ≤ s.size) (h8 : bt s 8 = 32) (h12 : bt s 12 = 32) (hf : vform (hd8 s) = true) {n : Int} (hn : numRes (mid3 s).data.toList 10 999 = (n, 0)) {k : Int} (hk : vminor (hd8 s) = (k, 0)) (hn1 : n < 100) :
 Calls Tryz.prog 199 #[.string s] w fun o w' => o = .returned (.tuple #[.agg #[.string ⟨#[]⟩, .string ⟨#[]⟩, .int .i64 0, .int .i64 0, .string (⟨#[]⟩), .slice none 0 0], .int .i64 12]) ∧ Below w.heap.size w w' := by
 have hsi : (s.size : Int) ≤ 100000 := by omega
 have hsj : (12 : Int) ≤ s.size := by omega
 have hlt : decide ((s.size : Int) < 12) = false := by rw [decide_eq_false_iff_not]; omega
 have hsk : (12 : Int) < s.size := by omega
 have hmin : min 13 (s.size : Int) = 13 := by omega
 have i8 : ∀ W : World, (Instr.index 9 (.string s) (.int .i64 8)).run Tryz.prog W = .ok (.int .u8 32) W := index_at s 8 (by omega) h8.symm
 have i12 : ∀ W : World, (Instr.index 9 (.string s) (.int .i64 12)).run Tryz.prog W = .ok (.int .u8 32) W := index_at s 12 (by omega) h12.symm
 have hS : Hid (s.size ≤ 9223372036854775807) := by show s.size ≤ 9223372036854775807; omega
 have HF := lH hf
 have HN := lH hn
 have HK := lH hk
 clear hs h8 h12 hf hn hk
 go_enter Tryz.func199, Tryz.ntmps199
 go_wp2_with (first
  | (go_at_call 222; refine (formed8_at hS.out HF.out _).mono ?_; rintro e' w' ⟨rfl, rfl⟩)
  | (go_at_call 125; refine (dec3_at hS.out HN.out _).mono ?_; rintro r' w2 ⟨rfl, b2⟩; have k2 := lH ((Blk.new w headZ 34).call b2); have u2 := lH (((Below.refl w.heap.size w).alloc (nR _) (.cells headZ 34)).trans (b2.mono (by simp))); clear b2; have c0 : w2.cell? ⟨w.heap.size, 0, none⟩ = some (.string ⟨#[]⟩) := k2.out.cell 0; have c1 : w2.cell? ⟨w.heap.size, 1, none⟩ = some (.string ⟨#[]⟩) := k2.out.cell 1; have c2 : w2.cell? ⟨w.heap.size, 2, none⟩ = some (.int .i64 0) := k2.out.cell 2; have c3 : w2.cell? ⟨w.heap.size, 3, none⟩ = some (.int .i64 0) := k2.out.cell 3; have c4 : w2.cell? ⟨w.heap.size, 4, none⟩ = some (.string ⟨#[]⟩) := k2.out.cell 4; have c5 : w2.cell? ⟨w.heap.size, 5, none⟩ = some (.slice none 0 0) := k2.out.cell 5; have f0 : w2.frozen? ⟨w.heap.size, 0, none⟩ = false := k2.out.froz 0; have f1 : w2.frozen? ⟨w.heap.size, 1, none⟩ = false := k2.out.froz 1; have f2 : w2.frozen? ⟨w.heap.size, 2, none⟩ = false := k2.out.froz 2; have f3 : w2.frozen? ⟨w.heap.size, 3, none⟩ = false := k2.out.froz 3; have f4 : w2.frozen? ⟨w.heap.size, 4, none⟩ = false := k2.out.froz 4; have f5 : w2.frozen? ⟨w.heap.size, 5, none⟩ = false := k2.out.froz 5)
  | (go_at_call 221; refine (minor8_at hS.out HK.out _).mono ?_; rintro r' w' ⟨rfl, rfl⟩))
 have q := headW_blk k2.out 0 0 (⟨#[]⟩)
 have u := headW_below u2.out 0 0 (⟨#[]⟩)
 obtain ⟨Wf, hWf⟩ : ∃ Wf, Wf = headW w2 w.heap.size 0 0 (⟨#[]⟩) := ⟨_, rfl⟩
 have q : Blk Wf w.heap.size #[.string ⟨#[]⟩, .string ⟨#[]⟩, .int .i64 0, .int .i64 0, .string (⟨#[]⟩), .slice none 0 0] 34 := by rw [hWf]; exact q
 have u : Below w.heap.size w Wf := by rw [hWf]; exact u
 have hWf' : (((((w2.setCell ⟨w.heap.size, 0, none⟩ (.string ⟨#[]⟩)).setCell ⟨w.heap.size, 1, none⟩ (.string ⟨#[]⟩)).setCell ⟨w.heap.size, 2, none⟩ (.int .i64 0)).setCell ⟨w.heap.size, 3, none⟩ (.int .i64 0)).setCell ⟨w.heap.size, 4, none⟩ (.string (⟨#[]⟩))).setCell ⟨w.heap.size, 5, none⟩ (.slice none 0 0) = Wf := hWf.symm
 rw [hWf']
 obtain ⟨q0, q1, q2, q3, q4, q5⟩ := bc6 q 0 1 2 3 4 5
 simp only [List.getElem?_toArray, List.getElem?_cons_zero, List.getElem?_cons_succ] at q0 q1 q2 q3 q4 q5
 exact bodyPost_ret (v := .tuple #[.agg #[.string ⟨#[]⟩, .string ⟨#[]⟩, .int .i64 0, .int .i64 0, .string (⟨#[]⟩), .slice none 0 0], .int .i64 12]) (by simp [results, Tryz.results199, go_sem, q0, q1, q2, q3, q4, q5]) rfl ⟨rfl, u⟩
theorem status_H12 (s : ByteArray) (hs : s.size ≤ 100000) (w : World) (hsz : s.size = 12) (h8 : bt s 8 = 32) (hf : vform (hd8 s) = true) {n : Int} (hn : numRes (mid3 s).data.toList 10 999 = (n, 0)) {k : Int} (hk : vminor (hd8 s) = (k, 0)) (hn1 : 599 < n) :
 Calls Tryz.prog 199 #[.string s] w fun o w' => o = .returned (.tuple #[.agg #[.string ⟨#[]⟩, .string ⟨#[]⟩, .int .i64 0, .int .i64 0, .string (⟨#[]⟩), .slice none 0 0], .int .i64 12]) ∧ Below w.heap.size w w' := by
 have hsi : (s.size : Int) ≤ 100000 := by omega
 have hsj : (12 : Int) ≤ s.size := by omega
 have hlt : decide ((s.size : Int) < 12) = false := by rw [decide_eq_false_iff_not]; omega
 have hsk : decide ((12 : Int) < s.size) = false := by rw [decide_eq_false_iff_not]; omega
 have hmin : min 13 (s.size : Int) = 12 := by omega
 have i8 : ∀ W : World, (Instr.index 9 (.string s) (.int .i64 8)).run Tryz.prog W = .ok (.int .u8 32) W := index_at s 8 (by omega) h8.symm
 have hn0 : decide (n < 100) = false := by rw [decide_eq_false_iff_not]; omega
 have hS : Hid (s.size ≤ 9223372036854775807) := by show s.size ≤ 9223372036854775807; omega
 have HF := lH hf
 have HN := lH hn
 have HK := lH hk
 clear hs h8 hf hn hk
 go_enter Tryz.func199, Tryz.ntmps199
 go_wp2_with (first
  | (go_at_call 222; refine (formed8_at hS.out HF.out _).mono ?_; rintro e' w' ⟨rfl, rfl⟩)
  | (go_at_call 125; refine (dec3_at hS.out HN.out _).mono ?_; rintro r' w2 ⟨rfl, b2⟩; have k2 := lH ((Blk.new w headZ 34).call b2); have u2 := lH (((Below.refl w.heap.size w).alloc (nR _) (.cells headZ 34)).trans (b2.mono (by simp))); clear b2; have c0 : w2.cell? ⟨w.heap.size, 0, none⟩ = some (.string ⟨#[]⟩) := k2.out.cell 0; have c1 : w2.cell? ⟨w.heap.size, 1, none⟩ = some (.string ⟨#[]⟩) := k2.out.cell 1; have c2 : w2.cell? ⟨w.heap.size, 2, none⟩ = some (.int .i64 0) := k2.out.cell 2; have c3 : w2.cell? ⟨w.heap.size, 3, none⟩ = some (.int .i64 0) := k2.out.cell 3; have c4 : w2.cell? ⟨w.heap.size, 4, none⟩ = some (.string ⟨#[]⟩) := k2.out.cell 4; have c5 : w2.cell? ⟨w.heap.size, 5, none⟩ = some (.slice none 0 0) := k2.out.cell 5; have f0 : w2.frozen? ⟨w.heap.size, 0, none⟩ = false := k2.out.froz 0; have f1 : w2.frozen? ⟨w.heap.size, 1, none⟩ = false := k2.out.froz 1; have f2 : w2.frozen? ⟨w.heap.size, 2, none⟩ = false := k2.out.froz 2; have f3 : w2.frozen? ⟨w.heap.size, 3, none⟩ = false := k2.out.froz 3; have f4 : w2.frozen? ⟨w.heap.size, 4, none⟩ = false := k2.out.froz 4; have f5 : w2.frozen? ⟨w.heap.size, 5, none⟩ = false := k2.out.froz 5)
  | (go_at_call 221; refine (minor8_at hS.out HK.out _).mono ?_; rintro r' w' ⟨rfl, rfl⟩))
 have q := headW_blk k2.out 0 0 (⟨#[]⟩)
 have u := headW_below u2.out 0 0 (⟨#[]⟩)
 obtain ⟨Wf, hWf⟩ : ∃ Wf, Wf = headW w2 w.heap.size 0 0 (⟨#[]⟩) := ⟨_, rfl⟩
 have q : Blk Wf w.heap.size #[.string ⟨#[]⟩, .string ⟨#[]⟩, .int .i64 0, .int .i64 0, .string (⟨#[]⟩), .slice none 0 0] 34 := by rw [hWf]; exact q
 have u : Below w.heap.size w Wf := by rw [hWf]; exact u
 have hWf' : (((((w2.setCell ⟨w.heap.size, 0, none⟩ (.string ⟨#[]⟩)).setCell ⟨w.heap.size, 1, none⟩ (.string ⟨#[]⟩)).setCell ⟨w.heap.size, 2, none⟩ (.int .i64 0)).setCell ⟨w.heap.size, 3, none⟩ (.int .i64 0)).setCell ⟨w.heap.size, 4, none⟩ (.string (⟨#[]⟩))).setCell ⟨w.heap.size, 5, none⟩ (.slice none 0 0) = Wf := hWf.symm
 rw [hWf']
 obtain ⟨q0, q1, q2, q3, q4, q5⟩ := bc6 q 0 1 2 3 4 5
 simp only [List.getElem?_toArray, List.getElem?_cons_zero, List.getElem?_cons_succ] at q0 q1 q2 q3 q4 q5
 exact bodyPost_ret (v := .tuple #[.agg #[.string ⟨#[]⟩, .string ⟨#[]⟩, .int .i64 0, .int .i64 0, .string (⟨#[]⟩), .slice none 0 0], .int .i64 12]) (by simp [results, Tryz.results199, go_sem, q0, q1, q2, q3, q4, q5]) rfl ⟨rfl, u⟩
theorem status_H13 (s : ByteArray) (hs : s.size ≤ 100000) (w : World) (hsz : 13 ≤ s.size) (h8 : bt s 8 = 32) (h12 : bt s 12 = 32) (hf : vform (hd8 s) = true) {n : Int} (hn : numRes (mid3 s).data.toList 10 999 = (n, 0)) {k : Int} (hk : vminor (hd8 s) = (k, 0)) (hn1 : 599 < n) :
 Calls Tryz.prog 199 #[.string s] w fun o w' => o = .returned (.tuple #[.agg #[.string ⟨#[]⟩, .string ⟨#[]⟩, .int .i64 0, .int .i64 0, .string (⟨#[]⟩), .slice none 0 0], .int .i64 12]) ∧ Below w.heap.size w w' := by
 have hsi : (s.size : Int) ≤ 100000 := by omega
 have hsj : (12 : Int) ≤ s.size := by omega
 have hlt : decide ((s.size : Int) < 12) = false := by rw [decide_eq_false_iff_not]; omega
 have hsk : (12 : Int) < s.size := by omega
 have hmin : min 13 (s.size : Int) = 13 := by omega
 have i8 : ∀ W : World, (Instr.index 9 (.string s) (.int .i64 8)).run Tryz.prog W = .ok (.int .u8 32) W := index_at s 8 (by omega) h8.symm
 have i12 : ∀ W : World, (Instr.index 9 (.string s) (.int .i64 12)).run Tryz.prog W = .ok (.int .u8 32) W := index_at s 12 (by omega) h12.symm
 have hn0 : decide (n < 100) = false := by rw [decide_eq_false_iff_not]; omega
 have hS : Hid (s.size ≤ 9223372036854775807) := by show s.size ≤ 9223372036854775807; omega
 have HF := lH hf
 have HN := lH hn
 have HK := lH hk
 clear hs h8 h12 hf hn hk
 go_enter Tryz.func199, Tryz.ntmps199
 go_wp2_with (first
  | (go_at_call 222; refine (formed8_at hS.out HF.out _).mono ?_; rintro e' w' ⟨rfl, rfl⟩)
  | (go_at_call 125; refine (dec3_at hS.out HN.out _).mono ?_; rintro r' w2 ⟨rfl, b2⟩; have k2 := lH ((Blk.new w headZ 34).call b2); have u2 := lH (((Below.refl w.heap.size w).alloc (nR _) (.cells headZ 34)).trans (b2.mono (by simp))); clear b2; have c0 : w2.cell? ⟨w.heap.size, 0, none⟩ = some (.string ⟨#[]⟩) := k2.out.cell 0; have c1 : w2.cell? ⟨w.heap.size, 1, none⟩ = some (.string ⟨#[]⟩) := k2.out.cell 1; have c2 : w2.cell? ⟨w.heap.size, 2, none⟩ = some (.int .i64 0) := k2.out.cell 2; have c3 : w2.cell? ⟨w.heap.size, 3, none⟩ = some (.int .i64 0) := k2.out.cell 3; have c4 : w2.cell? ⟨w.heap.size, 4, none⟩ = some (.string ⟨#[]⟩) := k2.out.cell 4; have c5 : w2.cell? ⟨w.heap.size, 5, none⟩ = some (.slice none 0 0) := k2.out.cell 5; have f0 : w2.frozen? ⟨w.heap.size, 0, none⟩ = false := k2.out.froz 0; have f1 : w2.frozen? ⟨w.heap.size, 1, none⟩ = false := k2.out.froz 1; have f2 : w2.frozen? ⟨w.heap.size, 2, none⟩ = false := k2.out.froz 2; have f3 : w2.frozen? ⟨w.heap.size, 3, none⟩ = false := k2.out.froz 3; have f4 : w2.frozen? ⟨w.heap.size, 4, none⟩ = false := k2.out.froz 4; have f5 : w2.frozen? ⟨w.heap.size, 5, none⟩ = false := k2.out.froz 5)
  | (go_at_call 221; refine (minor8_at hS.out HK.out _).mono ?_; rintro r' w' ⟨rfl, rfl⟩))
 have q := headW_blk k2.out 0 0 (⟨#[]⟩)
 have u := headW_below u2.out 0 0 (⟨#[]⟩)
 obtain ⟨Wf, hWf⟩ : ∃ Wf, Wf = headW w2 w.heap.size 0 0 (⟨#[]⟩) := ⟨_, rfl⟩
 have q : Blk Wf w.heap.size #[.string ⟨#[]⟩, .string ⟨#[]⟩, .int .i64 0, .int .i64 0, .string (⟨#[]⟩), .slice none 0 0] 34 := by rw [hWf]; exact q
 have u : Below w.heap.size w Wf := by rw [hWf]; exact u
 have hWf' : (((((w2.setCell ⟨w.heap.size, 0, none⟩ (.string ⟨#[]⟩)).setCell ⟨w.heap.size, 1, none⟩ (.string ⟨#[]⟩)).setCell ⟨w.heap.size, 2, none⟩ (.int .i64 0)).setCell ⟨w.heap.size, 3, none⟩ (.int .i64 0)).setCell ⟨w.heap.size, 4, none⟩ (.string (⟨#[]⟩))).setCell ⟨w.heap.size, 5, none⟩ (.slice none 0 0) = Wf := hWf.symm
 rw [hWf']
 obtain ⟨q0, q1, q2, q3, q4, q5⟩ := bc6 q 0 1 2 3 4 5
 simp only [List.getElem?_toArray, List.getElem?_cons_zero, List.getElem?_cons_succ] at q0 q1 q2 q3 q4 q5
 exact bodyPost_ret (v := .tuple #[.agg #[.string ⟨#[]⟩, .string ⟨#[]⟩, .int .i64 0, .int .i64 0, .string (⟨#[]⟩), .slice none 0 0], .int .i64 12]) (by simp [results, Tryz.results199, go_sem, q0, q1, q2, q3, q4, q5]) rfl ⟨rfl, u⟩
theorem status_I12 (s : ByteArray) (hs : s.size ≤ 100000) (w : World) (hsz : s.size = 12) (h8 : bt s 8 = 32) (hf : vform (hd8 s) = true) {n : Int} (hn : numRes (mid3 s).data.toList 10 999 = (n, 0)) {k : Int} (hk : vminor (hd8 s) = (k, 0)) (hn1 : 100 ≤ n) (hn2 : n ≤ 599) (hv : valL (rest13 s).data.toList = false) :
 Calls Tryz.prog 199 #[.string s] w fun o w' => o = .returned (.tuple #[.agg #[.string ⟨#[]⟩, .string ⟨#[]⟩, .int .i64 0, .int .i64 0, .string (⟨#[]⟩), .slice none 0 0], .int .i64 7]) ∧ Below w.heap.size w w' := by
 have hsi : (s.size : Int) ≤ 100000 := by omega
 have hsj : (12 : Int) ≤ s.size := by omega
 have hlt : decide ((s.size : Int) < 12) = false := by rw [decide_eq_false_iff_not]; omega
 have hsk : decide ((12 : Int) < s.size) = false := by rw [decide_eq_false_iff_not]; omega
 have hmin : min 13 (s.size : Int) = 12 := by omega
 have i8 : ∀ W : World, (Instr.index 9 (.string s) (.int .i64 8)).run Tryz.prog W = .ok (.int .u8 32) W := index_at s 8 (by omega) h8.symm
 have hn3 : decide (n < 100) = false := by rw [decide_eq_false_iff_not]; omega
 have hn4 : decide (599 < n) = false := by rw [decide_eq_false_iff_not]; omega
 have hS : Hid (s.size ≤ 9223372036854775807) := by show s.size ≤ 9223372036854775807; omega
 have HF := lH hf
 have HN := lH hn
 have HK := lH hk
 have HV := lH hv
 have hM : Hid (min 13 s.size = 12) := by show min 13 s.size = 12; omega
 have hR : Hid (s.extract (min (13 : Int) 12).toNat 12 = rest13 s) := by show s.extract (min (13 : Int) 12).toNat 12 = rest13 s; unfold rest13; rw [hM.out]; rw [show s.size = 12 from hsz]; rfl
 clear hs h8 hf hn hk hv
 go_enter Tryz.func199, Tryz.ntmps199
 go_wp2_with (first
  | (go_at_call 222; refine (formed8_at hS.out HF.out _).mono ?_; rintro e' w' ⟨rfl, rfl⟩)
  | (go_at_call 125; refine (dec3_at hS.out HN.out _).mono ?_; rintro r' w2 ⟨rfl, b2⟩; have k2 := lH ((Blk.new w headZ 34).call b2); have u2 := lH (((Below.refl w.heap.size w).alloc (nR _) (.cells headZ 34)).trans (b2.mono (by simp))); clear b2; have c0 : w2.cell? ⟨w.heap.size, 0, none⟩ = some (.string ⟨#[]⟩) := k2.out.cell 0; have c1 : w2.cell? ⟨w.heap.size, 1, none⟩ = some (.string ⟨#[]⟩) := k2.out.cell 1; have c2 : w2.cell? ⟨w.heap.size, 2, none⟩ = some (.int .i64 0) := k2.out.cell 2; have c3 : w2.cell? ⟨w.heap.size, 3, none⟩ = some (.int .i64 0) := k2.out.cell 3; have c4 : w2.cell? ⟨w.heap.size, 4, none⟩ = some (.string ⟨#[]⟩) := k2.out.cell 4; have c5 : w2.cell? ⟨w.heap.size, 5, none⟩ = some (.slice none 0 0) := k2.out.cell 5; have f0 : w2.frozen? ⟨w.heap.size, 0, none⟩ = false := k2.out.froz 0; have f1 : w2.frozen? ⟨w.heap.size, 1, none⟩ = false := k2.out.froz 1; have f2 : w2.frozen? ⟨w.heap.size, 2, none⟩ = false := k2.out.froz 2; have f3 : w2.frozen? ⟨w.heap.size, 3, none⟩ = false := k2.out.froz 3; have f4 : w2.frozen? ⟨w.heap.size, 4, none⟩ = false := k2.out.froz 4; have f5 : w2.frozen? ⟨w.heap.size, 5, none⟩ = false := k2.out.froz 5)
  | (go_at_call 221; refine (minor8_at hS.out HK.out _).mono ?_; rintro r' w' ⟨rfl, rfl⟩)
  | (go_at_call 107; refine (value13_at hS.out hR.out HV.out _).mono ?_; rintro r' w3 ⟨rfl, b3⟩; have k3 := lH (k2.out.call b3); have u3 := lH (u2.out.trans (b3.mono (by have := k2.out.lt; omega))); clear b3; clear c0 c1 c2 c3 c4 c5 f0 f1 f2 f3 f4 f5; have c0 : w3.cell? ⟨w.heap.size, 0, none⟩ = some (.string ⟨#[]⟩) := k3.out.cell 0; have c1 : w3.cell? ⟨w.heap.size, 1, none⟩ = some (.string ⟨#[]⟩) := k3.out.cell 1; have c2 : w3.cell? ⟨w.heap.size, 2, none⟩ = some (.int .i64 0) := k3.out.cell 2; have c3 : w3.cell? ⟨w.heap.size, 3, none⟩ = some (.int .i64 0) := k3.out.cell 3; have c4 : w3.cell? ⟨w.heap.size, 4, none⟩ = some (.string ⟨#[]⟩) := k3.out.cell 4; have c5 : w3.cell? ⟨w.heap.size, 5, none⟩ = some (.slice none 0 0) := k3.out.cell 5; have f0 : w3.frozen? ⟨w.heap.size, 0, none⟩ = false := k3.out.froz 0; have f1 : w3.frozen? ⟨w.heap.size, 1, none⟩ = false := k3.out.froz 1; have f2 : w3.frozen? ⟨w.heap.size, 2, none⟩ = false := k3.out.froz 2; have f3 : w3.frozen? ⟨w.heap.size, 3, none⟩ = false := k3.out.froz 3; have f4 : w3.frozen? ⟨w.heap.size, 4, none⟩ = false := k3.out.froz 4; have f5 : w3.frozen? ⟨w.heap.size, 5, none⟩ = false := k3.out.froz 5))
 have q := headW_blk k3.out 0 0 (⟨#[]⟩)
 have u := headW_below u3.out 0 0 (⟨#[]⟩)
 obtain ⟨Wf, hWf⟩ : ∃ Wf, Wf = headW w3 w.heap.size 0 0 (⟨#[]⟩) := ⟨_, rfl⟩
 have q : Blk Wf w.heap.size #[.string ⟨#[]⟩, .string ⟨#[]⟩, .int .i64 0, .int .i64 0, .string (⟨#[]⟩), .slice none 0 0] 34 := by rw [hWf]; exact q
 have u : Below w.heap.size w Wf := by rw [hWf]; exact u
 have hWf' : (((((w3.setCell ⟨w.heap.size, 0, none⟩ (.string ⟨#[]⟩)).setCell ⟨w.heap.size, 1, none⟩ (.string ⟨#[]⟩)).setCell ⟨w.heap.size, 2, none⟩ (.int .i64 0)).setCell ⟨w.heap.size, 3, none⟩ (.int .i64 0)).setCell ⟨w.heap.size, 4, none⟩ (.string (⟨#[]⟩))).setCell ⟨w.heap.size, 5, none⟩ (.slice none 0 0) = Wf := hWf.symm
 rw [hWf']
 obtain ⟨q0, q1, q2, q3, q4, q5⟩ := bc6 q 0 1 2 3 4 5
 simp only [List.getElem?_toArray, List.getElem?_cons_zero, List.getElem?_cons_succ] at q0 q1 q2 q3 q4 q5
 exact bodyPost_ret (v := .tuple #[.agg #[.string ⟨#[]⟩, .string ⟨#[]⟩, .int .i64 0, .int .i64 0, .string (⟨#[]⟩), .slice none 0 0], .int .i64 7]) (by simp [results, Tryz.results199, go_sem, q0, q1, q2, q3, q4, q5]) rfl ⟨rfl, u⟩
theorem status_I13 (s : ByteArray) (hs : s.size ≤ 100000) (w : World) (hsz : 13 ≤ s.size) (h8 : bt s 8 = 32) (h12 : bt s 12 = 32) (hf : vform (hd8 s) = true) {n : Int} (hn : numRes (mid3 s).data.toList 10 999 = (n, 0)) {k : Int} (hk : vminor (hd8 s) = (k, 0)) (hn1 : 100 ≤ n) (hn2 : n ≤ 599) (hv : valL (rest13 s).data.toList = false) :
 Calls Tryz.prog 199 #[.string s] w fun o w' => o = .returned (.tuple #[.agg #[.string ⟨#[]⟩, .string ⟨#[]⟩, .int .i64 0, .int .i64 0, .string (⟨#[]⟩), .slice none 0 0], .int .i64 7]) ∧ Below w.heap.size w w' := by
 have hsi : (s.size : Int) ≤ 100000 := by omega
 have hsj : (12 : Int) ≤ s.size := by omega
 have hlt : decide ((s.size : Int) < 12) = false := by rw [decide_eq_false_iff_not]; omega
 have hsk : (12 : Int) < s.size := by omega
 have hmin : min 13 (s.size : Int) = 13 := by omega
 have i8 : ∀ W : World, (Instr.index 9 (.string s) (.int .i64 8)).run Tryz.prog W = .ok (.int .u8 32) W := index_at s 8 (by omega) h8.symm
 have i12 : ∀ W : World, (Instr.index 9 (.string s) (.int .i64 12)).run Tryz.prog W = .ok (.int .u8 32) W := index_at s 12 (by omega) h12.symm
 have hn3 : decide (n < 100) = false := by rw [decide_eq_false_iff_not]; omega
 have hn4 : decide (599 < n) = false := by rw [decide_eq_false_iff_not]; omega
 have hS : Hid (s.size ≤ 9223372036854775807) := by show s.size ≤ 9223372036854775807; omega
 have HF := lH hf
 have HN := lH hn
 have HK := lH hk
 have HV := lH hv
 have hM : Hid (min 13 s.size = 13) := by show min 13 s.size = 13; omega
 have hR : Hid (s.extract 13 s.size = rest13 s) := by show s.extract 13 s.size = rest13 s; unfold rest13; rw [hM.out]
 clear hs h8 h12 hf hn hk hv
 go_enter Tryz.func199, Tryz.ntmps199
 go_wp2_with (first
  | (go_at_call 222; refine (formed8_at hS.out HF.out _).mono ?_; rintro e' w' ⟨rfl, rfl⟩)
  | (go_at_call 125; refine (dec3_at hS.out HN.out _).mono ?_; rintro r' w2 ⟨rfl, b2⟩; have k2 := lH ((Blk.new w headZ 34).call b2); have u2 := lH (((Below.refl w.heap.size w).alloc (nR _) (.cells headZ 34)).trans (b2.mono (by simp))); clear b2; have c0 : w2.cell? ⟨w.heap.size, 0, none⟩ = some (.string ⟨#[]⟩) := k2.out.cell 0; have c1 : w2.cell? ⟨w.heap.size, 1, none⟩ = some (.string ⟨#[]⟩) := k2.out.cell 1; have c2 : w2.cell? ⟨w.heap.size, 2, none⟩ = some (.int .i64 0) := k2.out.cell 2; have c3 : w2.cell? ⟨w.heap.size, 3, none⟩ = some (.int .i64 0) := k2.out.cell 3; have c4 : w2.cell? ⟨w.heap.size, 4, none⟩ = some (.string ⟨#[]⟩) := k2.out.cell 4; have c5 : w2.cell? ⟨w.heap.size, 5, none⟩ = some (.slice none 0 0) := k2.out.cell 5; have f0 : w2.frozen? ⟨w.heap.size, 0, none⟩ = false := k2.out.froz 0; have f1 : w2.frozen? ⟨w.heap.size, 1, none⟩ = false := k2.out.froz 1; have f2 : w2.frozen? ⟨w.heap.size, 2, none⟩ = false := k2.out.froz 2; have f3 : w2.frozen? ⟨w.heap.size, 3, none⟩ = false := k2.out.froz 3; have f4 : w2.frozen? ⟨w.heap.size, 4, none⟩ = false := k2.out.froz 4; have f5 : w2.frozen? ⟨w.heap.size, 5, none⟩ = false := k2.out.froz 5)
  | (go_at_call 221; refine (minor8_at hS.out HK.out _).mono ?_; rintro r' w' ⟨rfl, rfl⟩)
  | (go_at_call 107; refine (value13_at hS.out hR.out HV.out _).mono ?_; rintro r' w3 ⟨rfl, b3⟩; have k3 := lH (k2.out.call b3); have u3 := lH (u2.out.trans (b3.mono (by have := k2.out.lt; omega))); clear b3; clear c0 c1 c2 c3 c4 c5 f0 f1 f2 f3 f4 f5; have c0 : w3.cell? ⟨w.heap.size, 0, none⟩ = some (.string ⟨#[]⟩) := k3.out.cell 0; have c1 : w3.cell? ⟨w.heap.size, 1, none⟩ = some (.string ⟨#[]⟩) := k3.out.cell 1; have c2 : w3.cell? ⟨w.heap.size, 2, none⟩ = some (.int .i64 0) := k3.out.cell 2; have c3 : w3.cell? ⟨w.heap.size, 3, none⟩ = some (.int .i64 0) := k3.out.cell 3; have c4 : w3.cell? ⟨w.heap.size, 4, none⟩ = some (.string ⟨#[]⟩) := k3.out.cell 4; have c5 : w3.cell? ⟨w.heap.size, 5, none⟩ = some (.slice none 0 0) := k3.out.cell 5; have f0 : w3.frozen? ⟨w.heap.size, 0, none⟩ = false := k3.out.froz 0; have f1 : w3.frozen? ⟨w.heap.size, 1, none⟩ = false := k3.out.froz 1; have f2 : w3.frozen? ⟨w.heap.size, 2, none⟩ = false := k3.out.froz 2; have f3 : w3.frozen? ⟨w.heap.size, 3, none⟩ = false := k3.out.froz 3; have f4 : w3.frozen? ⟨w.heap.size, 4, none⟩ = false := k3.out.froz 4; have f5 : w3.frozen? ⟨w.heap.size, 5, none⟩ = false := k3.out.froz 5))
 have q := headW_blk k3.out 0 0 (⟨#[]⟩)
 have u := headW_below u3.out 0 0 (⟨#[]⟩)
 obtain ⟨Wf, hWf⟩ : ∃ Wf, Wf = headW w3 w.heap.size 0 0 (⟨#[]⟩) := ⟨_, rfl⟩
 have q : Blk Wf w.heap.size #[.string ⟨#[]⟩, .string ⟨#[]⟩, .int .i64 0, .int .i64 0, .string (⟨#[]⟩), .slice none 0 0] 34 := by rw [hWf]; exact q
 have u : Below w.heap.size w Wf := by rw [hWf]; exact u
 have hWf' : (((((w3.setCell ⟨w.heap.size, 0, none⟩ (.string ⟨#[]⟩)).setCell ⟨w.heap.size, 1, none⟩ (.string ⟨#[]⟩)).setCell ⟨w.heap.size, 2, none⟩ (.int .i64 0)).setCell ⟨w.heap.size, 3, none⟩ (.int .i64 0)).setCell ⟨w.heap.size, 4, none⟩ (.string (⟨#[]⟩))).setCell ⟨w.heap.size, 5, none⟩ (.slice none 0 0) = Wf := hWf.symm
 rw [hWf']
 obtain ⟨q0, q1, q2, q3, q4, q5⟩ := bc6 q 0 1 2 3 4 5
 simp only [List.getElem?_toArray, List.getElem?_cons_zero, List.getElem?_cons_succ] at q0 q1 q2 q3 q4 q5
 exact bodyPost_ret (v := .tuple #[.agg #[.string ⟨#[]⟩, .string ⟨#[]⟩, .int .i64 0, .int .i64 0, .string (⟨#[]⟩), .slice none 0 0], .int .i64 7]) (by simp [results, Tryz.results199, go_sem, q0, q1, q2, q3, q4, q5]) rfl ⟨rfl, u⟩
theorem status_J12 (s : ByteArray) (hs : s.size ≤ 100000) (w : World) (hsz : s.size = 12) (h8 : bt s 8 = 32) (hf : vform (hd8 s) = true) {n : Int} (hn : numRes (mid3 s).data.toList 10 999 = (n, 0)) {k : Int} (hk : vminor (hd8 s) = (k, 0)) (hn1 : 100 ≤ n) (hn2 : n ≤ 599) (hv : valL (rest13 s).data.toList = true) :
 Calls Tryz.prog 199 #[.string s] w fun o w' => o = .returned (.tuple #[.agg #[.string ⟨#[]⟩, .string ⟨#[]⟩, .int .i64 k, .int .i64 n, .string (rest13 s), .slice none 0 0], .int .i64 0]) ∧ Below w.heap.size w w' := by
 have hsi : (s.size : Int) ≤ 100000 := by omega
 have hsj : (12 : Int) ≤ s.size := by omega
 have hlt : decide ((s.size : Int) < 12) = false := by rw [decide_eq_false_iff_not]; omega
 have hsk : decide ((12 : Int) < s.size) = false := by rw [decide_eq_false_iff_not]; omega
 have hmin : min 13 (s.size : Int) = 12 := by omega
 have i8 : ∀ W : World, (Instr.index 9 (.string s) (.int .i64 8)).run Tryz.prog W = .ok (.int .u8 32) W := index_at s 8 (by omega) h8.symm
 have hn3 : decide (n < 100) = false := by rw [decide_eq_false_iff_not]; omega
 have hn4 : decide (599 < n) = false := by rw [decide_eq_false_iff_not]; omega
 have hS : Hid (s.size ≤ 9223372036854775807) := by show s.size ≤ 9223372036854775807; omega
 have HF := lH hf
 have HN := lH hn
 have HK := lH hk
 have HV := lH hv
 have hM : Hid (min 13 s.size = 12) := by show min 13 s.size = 12; omega
 have hR : Hid (s.extract (min (13 : Int) 12).toNat 12 = rest13 s) := by show s.extract (min (13 : Int) 12).toNat 12 = rest13 s; unfold rest13; rw [hM.out]; rw [show s.size = 12 from hsz]; rfl
 clear hs h8 hf hn hk hv
 go_enter Tryz.func199, Tryz.ntmps199
 go_wp2_with (first
  | (go_at_call 222; refine (formed8_at hS.out HF.out _).mono ?_; rintro e' w' ⟨rfl, rfl⟩)
  | (go_at_call 125; refine (dec3_at hS.out HN.out _).mono ?_; rintro r' w2 ⟨rfl, b2⟩; have k2 := lH ((Blk.new w headZ 34).call b2); have u2 := lH (((Below.refl w.heap.size w).alloc (nR _) (.cells headZ 34)).trans (b2.mono (by simp))); clear b2; have c0 : w2.cell? ⟨w.heap.size, 0, none⟩ = some (.string ⟨#[]⟩) := k2.out.cell 0; have c1 : w2.cell? ⟨w.heap.size, 1, none⟩ = some (.string ⟨#[]⟩) := k2.out.cell 1; have c2 : w2.cell? ⟨w.heap.size, 2, none⟩ = some (.int .i64 0) := k2.out.cell 2; have c3 : w2.cell? ⟨w.heap.size, 3, none⟩ = some (.int .i64 0) := k2.out.cell 3; have c4 : w2.cell? ⟨w.heap.size, 4, none⟩ = some (.string ⟨#[]⟩) := k2.out.cell 4; have c5 : w2.cell? ⟨w.heap.size, 5, none⟩ = some (.slice none 0 0) := k2.out.cell 5; have f0 : w2.frozen? ⟨w.heap.size, 0, none⟩ = false := k2.out.froz 0; have f1 : w2.frozen? ⟨w.heap.size, 1, none⟩ = false := k2.out.froz 1; have f2 : w2.frozen? ⟨w.heap.size, 2, none⟩ = false := k2.out.froz 2; have f3 : w2.frozen? ⟨w.heap.size, 3, none⟩ = false := k2.out.froz 3; have f4 : w2.frozen? ⟨w.heap.size, 4, none⟩ = false := k2.out.froz 4; have f5 : w2.frozen? ⟨w.heap.size, 5, none⟩ = false := k2.out.froz 5)
  | (go_at_call 221; refine (minor8_at hS.out HK.out _).mono ?_; rintro r' w' ⟨rfl, rfl⟩)
  | (go_at_call 107; refine (value13_at hS.out hR.out HV.out _).mono ?_; rintro r' w3 ⟨rfl, b3⟩; have k3 := lH (k2.out.call b3); have u3 := lH (u2.out.trans (b3.mono (by have := k2.out.lt; omega))); clear b3; clear c0 c1 c2 c3 c4 c5 f0 f1 f2 f3 f4 f5; have c0 : w3.cell? ⟨w.heap.size, 0, none⟩ = some (.string ⟨#[]⟩) := k3.out.cell 0; have c1 : w3.cell? ⟨w.heap.size, 1, none⟩ = some (.string ⟨#[]⟩) := k3.out.cell 1; have c2 : w3.cell? ⟨w.heap.size, 2, none⟩ = some (.int .i64 0) := k3.out.cell 2; have c3 : w3.cell? ⟨w.heap.size, 3, none⟩ = some (.int .i64 0) := k3.out.cell 3; have c4 : w3.cell? ⟨w.heap.size, 4, none⟩ = some (.string ⟨#[]⟩) := k3.out.cell 4; have c5 : w3.cell? ⟨w.heap.size, 5, none⟩ = some (.slice none 0 0) := k3.out.cell 5; have f0 : w3.frozen? ⟨w.heap.size, 0, none⟩ = false := k3.out.froz 0; have f1 : w3.frozen? ⟨w.heap.size, 1, none⟩ = false := k3.out.froz 1; have f2 : w3.frozen? ⟨w.heap.size, 2, none⟩ = false := k3.out.froz 2; have f3 : w3.frozen? ⟨w.heap.size, 3, none⟩ = false := k3.out.froz 3; have f4 : w3.frozen? ⟨w.heap.size, 4, none⟩ = false := k3.out.froz 4; have f5 : w3.frozen? ⟨w.heap.size, 5, none⟩ = false := k3.out.froz 5))
 have q := headW_blk k3.out k n (s.extract (min (13 : Int) 12).toNat 12)
 have u := headW_below u3.out k n (s.extract (min (13 : Int) 12).toNat 12)
 obtain ⟨Wf, hWf⟩ : ∃ Wf, Wf = headW w3 w.heap.size k n (s.extract (min (13 : Int) 12).toNat 12) := ⟨_, rfl⟩
 have q : Blk Wf w.heap.size #[.string ⟨#[]⟩, .string ⟨#[]⟩, .int .i64 k, .int .i64 n, .string (s.extract (min (13 : Int) 12).toNat 12), .slice none 0 0] 34 := by rw [hWf]; exact q
 have u : Below w.heap.size w Wf := by rw [hWf]; exact u
 have hWf' : (((((w3.setCell ⟨w.heap.size, 0, none⟩ (.string ⟨#[]⟩)).setCell ⟨w.heap.size, 1, none⟩ (.string ⟨#[]⟩)).setCell ⟨w.heap.size, 2, none⟩ (.int .i64 k)).setCell ⟨w.heap.size, 3, none⟩ (.int .i64 n)).setCell ⟨w.heap.size, 4, none⟩ (.string (s.extract (min (13 : Int) 12).toNat 12))).setCell ⟨w.heap.size, 5, none⟩ (.slice none 0 0) = Wf := hWf.symm
 rw [hWf']
 obtain ⟨q0, q1, q2, q3, q4, q5⟩ := bc6 q 0 1 2 3 4 5
 simp only [List.getElem?_toArray, List.getElem?_cons_zero, List.getElem?_cons_succ] at q0 q1 q2 q3 q4 q5
 rw [hR.out] at q4
 exact bodyPost_ret (v := .tuple #[.agg #[.string ⟨#[]⟩, .string ⟨#[]⟩, .int .i64 k, .int .i64 n, .string (rest13 s), .slice none 0 0], .int .i64 0]) (by simp [results, Tryz.results199, go_sem, q0, q1, q2, q3, q4, q5]) rfl ⟨rfl, u⟩
theorem status_J13 (s : ByteArray) (hs : s.size ≤ 100000) (w : World) (hsz : 13 ≤ s.size) (h8 : bt s 8 = 32) (h12 : bt s 12 = 32) (hf : vform (hd8 s) = true) {n : Int} (hn : numRes (mid3 s).data.toList 10 999 = (n, 0)) {k : Int} (hk : vminor (hd8 s) = (k, 0)) (hn1 : 100 ≤ n) (hn2 : n ≤ 599) (hv : valL (rest13 s).data.toList = true) :
 Calls Tryz.prog 199 #[.string s] w fun o w' => o = .returned (.tuple #[.agg #[.string ⟨#[]⟩, .string ⟨#[]⟩, .int .i64 k, .int .i64 n, .string (rest13 s), .slice none 0 0], .int .i64 0]) ∧ Below w.heap.size w w' := by
 have hsi : (s.size : Int) ≤ 100000 := by omega
 have hsj : (12 : Int) ≤ s.size := by omega
 have hlt : decide ((s.size : Int) < 12) = false := by rw [decide_eq_false_iff_not]; omega
 have hsk : (12 : Int) < s.size := by omega
 have hmin : min 13 (s.size : Int) = 13 := by omega
 have i8 : ∀ W : World, (Instr.index 9 (.string s) (.int .i64 8)).run Tryz.prog W = .ok (.int .u8 32) W := index_at s 8 (by omega) h8.symm
 have i12 : ∀ W : World, (Instr.index 9 (.string s) (.int .i64 12)).run Tryz.prog W = .ok (.int .u8 32) W := index_at s 12 (by omega) h12.symm
 have hn3 : decide (n < 100) = false := by rw [decide_eq_false_iff_not]; omega
 have hn4 : decide (599 < n) = false := by rw [decide_eq_false_iff_not]; omega
 have hS : Hid (s.size ≤ 9223372036854775807) := by show s.size ≤ 9223372036854775807; omega
 have HF := lH hf
 have HN := lH hn
 have HK := lH hk
 have HV := lH hv
 have hM : Hid (min 13 s.size = 13) := by show min 13 s.size = 13; omega
 have hR : Hid (s.extract 13 s.size = rest13 s) := by show s.extract 13 s.size = rest13 s; unfold rest13; rw [hM.out]
 clear hs h8 h12 hf hn hk hv
 go_enter Tryz.func199, Tryz.ntmps199
 go_wp2_with (first
  | (go_at_call 222; refine (formed8_at hS.out HF.out _).mono ?_; rintro e' w' ⟨rfl, rfl⟩)
  | (go_at_call 125; refine (dec3_at hS.out HN.out _).mono ?_; rintro r' w2 ⟨rfl, b2⟩; have k2 := lH ((Blk.new w headZ 34).call b2); have u2 := lH (((Below.refl w.heap.size w).alloc (nR _) (.cells headZ 34)).trans (b2.mono (by simp))); clear b2; have c0 : w2.cell? ⟨w.heap.size, 0, none⟩ = some (.string ⟨#[]⟩) := k2.out.cell 0; have c1 : w2.cell? ⟨w.heap.size, 1, none⟩ = some (.string ⟨#[]⟩) := k2.out.cell 1; have c2 : w2.cell? ⟨w.heap.size, 2, none⟩ = some (.int .i64 0) := k2.out.cell 2; have c3 : w2.cell? ⟨w.heap.size, 3, none⟩ = some (.int .i64 0) := k2.out.cell 3; have c4 : w2.cell? ⟨w.heap.size, 4, none⟩ = some (.string ⟨#[]⟩) := k2.out.cell 4; have c5 : w2.cell? ⟨w.heap.size, 5, none⟩ = some (.slice none 0 0) := k2.out.cell 5; have f0 : w2.frozen? ⟨w.heap.size, 0, none⟩ = false := k2.out.froz 0; have f1 : w2.frozen? ⟨w.heap.size, 1, none⟩ = false := k2.out.froz 1; have f2 : w2.frozen? ⟨w.heap.size, 2, none⟩ = false := k2.out.froz 2; have f3 : w2.frozen? ⟨w.heap.size, 3, none⟩ = false := k2.out.froz 3; have f4 : w2.frozen? ⟨w.heap.size, 4, none⟩ = false := k2.out.froz 4; have f5 : w2.frozen? ⟨w.heap.size, 5, none⟩ = false := k2.out.froz 5)
  | (go_at_call 221; refine (minor8_at hS.out HK.out _).mono ?_; rintro r' w' ⟨rfl, rfl⟩)
  | (go_at_call 107; refine (value13_at hS.out hR.out HV.out _).mono ?_; rintro r' w3 ⟨rfl, b3⟩; have k3 := lH (k2.out.call b3); have u3 := lH (u2.out.trans (b3.mono (by have := k2.out.lt; omega))); clear b3; clear c0 c1 c2 c3 c4 c5 f0 f1 f2 f3 f4 f5; have c0 : w3.cell? ⟨w.heap.size, 0, none⟩ = some (.string ⟨#[]⟩) := k3.out.cell 0; have c1 : w3.cell? ⟨w.heap.size, 1, none⟩ = some (.string ⟨#[]⟩) := k3.out.cell 1; have c2 : w3.cell? ⟨w.heap.size, 2, none⟩ = some (.int .i64 0) := k3.out.cell 2; have c3 : w3.cell? ⟨w.heap.size, 3, none⟩ = some (.int .i64 0) := k3.out.cell 3; have c4 : w3.cell? ⟨w.heap.size, 4, none⟩ = some (.string ⟨#[]⟩) := k3.out.cell 4; have c5 : w3.cell? ⟨w.heap.size, 5, none⟩ = some (.slice none 0 0) := k3.out.cell 5; have f0 : w3.frozen? ⟨w.heap.size, 0, none⟩ = false := k3.out.froz 0; have f1 : w3.frozen? ⟨w.heap.size, 1, none⟩ = false := k3.out.froz 1; have f2 : w3.frozen? ⟨w.heap.size, 2, none⟩ = false := k3.out.froz 2; have f3 : w3.frozen? ⟨w.heap.size, 3, none⟩ = false := k3.out.froz 3; have f4 : w3.frozen? ⟨w.heap.size, 4, none⟩ = false := k3.out.froz 4; have f5 : w3.frozen? ⟨w.heap.size, 5, none⟩ = false := k3.out.froz 5))
 have q := headW_blk k3.out k n (s.extract 13 s.size)
 have u := headW_below u3.out k n (s.extract 13 s.size)
 obtain ⟨Wf, hWf⟩ : ∃ Wf, Wf = headW w3 w.heap.size k n (s.extract 13 s.size) := ⟨_, rfl⟩
 have q : Blk Wf w.heap.size #[.string ⟨#[]⟩, .string ⟨#[]⟩, .int .i64 k, .int .i64 n, .string (s.extract 13 s.size), .slice none 0 0] 34 := by rw [hWf]; exact q
 have u : Below w.heap.size w Wf := by rw [hWf]; exact u
 have hWf' : (((((w3.setCell ⟨w.heap.size, 0, none⟩ (.string ⟨#[]⟩)).setCell ⟨w.heap.size, 1, none⟩ (.string ⟨#[]⟩)).setCell ⟨w.heap.size, 2, none⟩ (.int .i64 k)).setCell ⟨w.heap.size, 3, none⟩ (.int .i64 n)).setCell ⟨w.heap.size, 4, none⟩ (.string (s.extract 13 s.size))).setCell ⟨w.heap.size, 5, none⟩ (.slice none 0 0) = Wf := hWf.symm
 rw [hWf']
 obtain ⟨q0, q1, q2, q3, q4, q5⟩ := bc6 q 0 1 2 3 4 5
 simp only [List.getElem?_toArray, List.getElem?_cons_zero, List.getElem?_cons_succ] at q0 q1 q2 q3 q4 q5
 rw [hR.out] at q4
 exact bodyPost_ret (v := .tuple #[.agg #[.string ⟨#[]⟩, .string ⟨#[]⟩, .int .i64 k, .int .i64 n, .string (rest13 s), .slice none 0 0], .int .i64 0]) (by simp [results, Tryz.results199, go_sem, q0, q1, q2, q3, q4, q5]) rfl ⟨rfl, u⟩
end Go.Proofs.YtaojfiegnebbdaaGreatDoor
-- StatusAll
namespace Go.Proofs.YtaojfiegnebbdaaGreatDoor
open Go.RowKit
theorem statForm_no {s : ByteArray} (h : s.size < 12) : statForm s = false := by unfold statForm; rw [dF (by omega)]; rfl
theorem statForm_eight {s : ByteArray} (h : bt s 8 ≠ 32) : statForm s = false := by unfold statForm; rw [dF h]; simp
theorem statForm_twelve {s : ByteArray} (h1 : 13 ≤ s.size) (h : bt s 12 ≠ 32) : statForm s = false := by unfold statForm; rw [dF h, dF (show ¬ s.size = 12 by omega)]; simp
theorem statForm_version {s : ByteArray} (h : vform (hd8 s) = false) : statForm s = false := by unfold statForm; rw [h]; simp
theorem mid_list (s : ByteArray) (h : 12 ≤ s.size) : (mid3 s).data.toList = [s[9]'(by omega), s[10]'(by omega), s[11]'(by omega)] := by
 unfold mid3
 rw [Lib.extract_data, List.drop_eq_getElem_cons (by simp; omega), List.drop_eq_getElem_cons (by simp; omega), List.drop_eq_getElem_cons (by simp; omega)]
 rfl
theorem digB_bt (s : ByteArray) (k : Nat) (h : k < s.size) : digB 10 (s[k]'h) = isDg (bt s k) := by
 have h1 := bt_get s k h
 have h2 : 0 ≤ bt s k ∧ bt s k ≤ 255 := bt_range s k
 unfold digB
 rw [← h1]
 unfold isDg digV
 rw [Bool.eq_iff_iff, decide_eq_true_eq, decide_eq_true_eq]
 repeat' split
 all_goals omega
theorem statForm_mid {s : ByteArray} (h : 12 ≤ s.size) (h1 : ((mid3 s).data.toList.all (digB 10)) = false) : statForm s = false := by
 rw [mid_list s h] at h1
 simp only [List.all_cons, List.all_nil, digB_bt, Bool.and_true] at h1
 unfold statForm
 rw [h1]
 simp
theorem statForm_yes {s : ByteArray} (h : 12 ≤ s.size) (h8 : bt s 8 = 32) (h12 : s.size = 12 ∨ bt s 12 = 32) (hf : vform (hd8 s) = true) (h1 : ((mid3 s).data.toList.all (digB 10)) = true) : statForm s = true := by
 rw [mid_list s h] at h1
 simp only [List.all_cons, List.all_nil, digB_bt, Bool.and_true] at h1
 unfold statForm
 rw [h1, dT h, dT h8, hf]
 rcases h12 with h2 | h2
 ·rw [dT h2]; rfl
 ·rw [dT h2]; simp
theorem mid_small {s : ByteArray} (h : 12 ≤ s.size) (h1 : ((mid3 s).data.toList.all (digB 10)) = true) : numV 10 (mid3 s).data.toList ≤ 999 := by
 rw [mid_list s h] at h1 ⊢
 simp only [List.all_cons, List.all_nil, Bool.and_true, Bool.and_eq_true, digB, decide_eq_true_eq] at h1
 simp only [numV, List.foldl_cons, List.foldl_nil]
 omega
theorem mid_res {s : ByteArray} (h : 12 ≤ s.size) : numRes (mid3 s).data.toList 10 999 = if (mid3 s).data.toList.all (digB 10) = true then (numV 10 (mid3 s).data.toList, 0) else (0, 3) := by
 have he : (mid3 s).data.toList.isEmpty = false := by rw [mid_list s h]; rfl
 unfold numRes
 rw [he]
 cases h1 : (mid3 s).data.toList.all (digB 10)
 ·rfl
 ·have := mid_small h h1
  simp [this]
theorem statRes_form {s : ByteArray} (h : statForm s = false) : statRes s = ((0, 0, ⟨#[]⟩), 3) := by unfold statRes; rw [if_pos h]
theorem statRes_minor {s : ByteArray} {k f : Int} (h : statForm s = true) (hk : vminor (hd8 s) = (k, f)) (hf : f ≠ 0) : statRes s = ((0, 0, ⟨#[]⟩), f) := by unfold statRes; rw [if_neg (by rw [h]; decide), hk, if_pos hf]
theorem statRes_range {s : ByteArray} {k n : Int} (h : statForm s = true) (hk : vminor (hd8 s) = (k, 0)) (hn : numV 10 (mid3 s).data.toList = n) (hr : n < 100 ∨ 599 < n) : statRes s = ((0, 0, ⟨#[]⟩), 12) := by
 unfold statRes; rw [if_neg (by rw [h]; decide), hk, if_neg (by simp), hn, if_pos hr]
theorem statRes_value {s : ByteArray} {k n : Int} (h : statForm s = true) (hk : vminor (hd8 s) = (k, 0)) (hn : numV 10 (mid3 s).data.toList = n) (hr : 100 ≤ n) (hr' : n ≤ 599) (hv : valL (rest13 s).data.toList = false) : statRes s = ((0, 0, ⟨#[]⟩), 7) := by
 unfold statRes; rw [if_neg (by rw [h]; decide), hk, if_neg (by simp), hn, if_neg (by omega), if_pos hv]
theorem statRes_ok {s : ByteArray} {k n : Int} (h : statForm s = true) (hk : vminor (hd8 s) = (k, 0)) (hn : numV 10 (mid3 s).data.toList = n) (hr : 100 ≤ n) (hr' : n ≤ 599) (hv : valL (rest13 s).data.toList = true) : statRes s = ((k, n, rest13 s), 0) := by
 unfold statRes; rw [if_neg (by rw [h]; decide), hk, if_neg (by simp), hn, if_neg (by omega), if_neg (by rw [hv]; decide)]
theorem status_any (s : ByteArray) (hs : s.size ≤ 100000) {k n e : Int} {r : ByteArray} (hr : statRes s = ((k, n, r), e)) (w : World) :
 Calls Tryz.prog 199 #[.string s] w fun o w' => o = .returned (.tuple #[.agg #[.string ⟨#[]⟩, .string ⟨#[]⟩, .int .i64 k, .int .i64 n, .string r, .slice none 0 0], .int .i64 e]) ∧ Below w.heap.size w w' := by
 have form : statForm s = false → (0 = k ∧ 0 = n ∧ ⟨#[]⟩ = r) ∧ 3 = e := fun h => by
  rw [statRes_form h] at hr
  simpa using hr
 by_cases hA : s.size < 12
 ·obtain ⟨⟨rfl, rfl, rfl⟩, rfl⟩ := form (statForm_no hA)
  exact status_A s hs w hA
 by_cases h8 : bt s 8 = 32
 rotate_left
 ·obtain ⟨⟨rfl, rfl, rfl⟩, rfl⟩ := form (statForm_eight h8)
  exact status_B s hs w (by omega) h8
 by_cases hC : s.size = 12 ∨ bt s 12 = 32
 rotate_left
 ·have h1 : s.size ≠ 12 := fun h => hC (.inl h)
  have h2 : bt s 12 ≠ 32 := fun h => hC (.inr h)
  obtain ⟨⟨rfl, rfl, rfl⟩, rfl⟩ := form (statForm_twelve (by omega) h2)
  exact status_C s hs w (by omega) h8 h2
 have hC' : s.size = 12 ∨ (13 ≤ s.size ∧ bt s 12 = 32) := by
  rcases hC with h | h
  ·exact .inl h
  ·rcases (by omega : s.size = 12 ∨ 13 ≤ s.size) with h1 | h1
   ·exact .inl h1
   ·exact .inr ⟨h1, h⟩
 cases hf : vform (hd8 s)
 ·obtain ⟨⟨rfl, rfl, rfl⟩, rfl⟩ := form (statForm_version hf)
  rcases hC' with h | ⟨h, h'⟩
  ·exact status_D12 s hs w h h8 hf
  ·exact status_D13 s hs w h h8 h' hf
 have hm := mid_res (s := s) (by omega)
 cases hd : (mid3 s).data.toList.all (digB 10)
 ·rw [hd, if_neg (by decide)] at hm
  obtain ⟨⟨rfl, rfl, rfl⟩, rfl⟩ := form (statForm_mid (by omega) hd)
  rcases hC' with h | ⟨h, h'⟩
  ·exact status_E12 s hs w h h8 hf hm (by decide)
  ·exact status_E13 s hs w h h8 h' hf hm (by decide)
 rw [hd, if_pos rfl] at hm
 have hy := statForm_yes (by omega) h8 hC hf hd
 obtain ⟨a, ha⟩ : ∃ a, numV 10 (mid3 s).data.toList = a := ⟨_, rfl⟩
 rw [ha] at hm
 obtain ⟨k', f, hk⟩ : ∃ k' f, vminor (hd8 s) = (k', f) := ⟨_, _, rfl⟩
 by_cases hf0 : f = 0
 rotate_left
 ·rw [statRes_minor hy hk hf0] at hr
  obtain ⟨⟨rfl, rfl, rfl⟩, rfl⟩ : (0 = k ∧ 0 = n ∧ ⟨#[]⟩ = r) ∧ f = e := by simpa using hr
  rcases hC' with h | ⟨h, h'⟩
  ·exact status_F12 s hs w h h8 hf hm hk hf0
  ·exact status_F13 s hs w h h8 h' hf hm hk hf0
 subst hf0
 by_cases hlo : a < 100
 ·rw [statRes_range hy hk ha (.inl hlo)] at hr
  obtain ⟨⟨rfl, rfl, rfl⟩, rfl⟩ : (0 = k ∧ 0 = n ∧ ⟨#[]⟩ = r) ∧ 12 = e := by simpa using hr
  rcases hC' with h | ⟨h, h'⟩
  ·exact status_G12 s hs w h h8 hf hm hk hlo
  ·exact status_G13 s hs w h h8 h' hf hm hk hlo
 by_cases hhi : 599 < a
 ·rw [statRes_range hy hk ha (.inr hhi)] at hr
  obtain ⟨⟨rfl, rfl, rfl⟩, rfl⟩ : (0 = k ∧ 0 = n ∧ ⟨#[]⟩ = r) ∧ 12 = e := by simpa using hr
  rcases hC' with h | ⟨h, h'⟩
  ·exact status_H12 s hs w h h8 hf hm hk hhi
  ·exact status_H13 s hs w h h8 h' hf hm hk hhi
 cases hv : valL (rest13 s).data.toList
 ·rw [statRes_value hy hk ha (by omega) (by omega) hv] at hr
  obtain ⟨⟨rfl, rfl, rfl⟩, rfl⟩ : (0 = k ∧ 0 = n ∧ ⟨#[]⟩ = r) ∧ 7 = e := by simpa using hr
  rcases hC' with h | ⟨h, h'⟩
  ·exact status_I12 s hs w h h8 hf hm hk (by omega) (by omega) hv
  ·exact status_I13 s hs w h h8 h' hf hm hk (by omega) (by omega) hv
 ·rw [statRes_ok hy hk ha (by omega) (by omega) hv] at hr
  obtain ⟨⟨rfl, rfl, rfl⟩, rfl⟩ : (k' = k ∧ a = n ∧ rest13 s = r) ∧ 0 = e := by simpa using hr
  rcases hC' with h | ⟨h, h'⟩
  ·exact status_J12 s hs w h h8 hf hm hk (by omega) (by omega) hv
  ·exact status_J13 s hs w h h8 h' hf hm hk (by omega) (by omega) hv
end Go.Proofs.YtaojfiegnebbdaaGreatDoor
-- StatusR
namespace Go.Proofs.YtaojfiegnebbdaaGreatDoor
open Go.RowKit
end Go.Proofs.YtaojfiegnebbdaaGreatDoor
-- PrP
namespace Go.Proofs.YtaojfiegnebbdaaGreatDoor
open Go.RowKit
def skipN (l : List UInt8) : Nat := (l.takeWhile blL).length
def tkB (b : UInt8) : Bool := tcharB b.toNat
def tokN (l : List UInt8) : Nat := (l.takeWhile tkB).length
def qtL : List UInt8 → Option (Nat × List UInt8)
 | [] => none
 | b :: t => if b = 34 then some (1, []) else if b = 92 then
     (match t with
      | [] => none
      | c :: r => if valueB c.toNat = true then (qtL r).map (fun p => (p.1 + 2, c :: p.2)) else none)
   else if valueB b.toNat = true then (qtL t).map (fun p => (p.1 + 1, b :: p.2)) else none
def quL : List UInt8 → Option (Nat × List UInt8)
 | [] => none
 | b :: t => if b = 34 then (qtL t).map (fun p => (p.1 + 1, p.2)) else none
def valF (l : List UInt8) : Option Nat :=
 match l.drop (skipN l) with
 | [] => some 0
 | b :: r => if b = 61 then
     (if 0 < tokN (r.drop (skipN r)) then some (skipN l + 1 + skipN r + tokN (r.drop (skipN r)))
      else (quL (r.drop (skipN r))).map (fun p => skipN l + 1 + skipN r + p.1))
   else some 0
def parF (l : List UInt8) : Option Nat :=
 match l.drop (skipN l) with
 | [] => none
 | b :: r => if b = 59 then
     (if tokN (r.drop (skipN r)) = 0 then none
      else (valF (r.drop (skipN r + tokN (r.drop (skipN r))))).map (fun n => skipN l + 1 + skipN r + tokN (r.drop (skipN r)) + n))
   else none
def parsF (l : List UInt8) : Option Nat :=
 match l with
 | [] => some 0
 | c :: t =>
   match parF (c :: t) with
   | none => none
   | some 0 => none
   | some (n + 1) => (parsF (t.drop n)).map (· + 1)
termination_by l.length
decreasing_by simp only [List.length_cons, List.length_drop]; omega
def lowI (c : Int) : Int := if 65 ≤ c ∧ c ≤ 90 then c + 32 else c
def low8 (b : UInt8) : UInt8 := if 65 ≤ b.toNat ∧ b.toNat ≤ 90 then b + 32 else b
def lowL (l : List UInt8) : List UInt8 := l.map low8
def lowB (s : ByteArray) : ByteArray := ⟨(lowL s.data.toList).toArray⟩
theorem low8_nat (b : UInt8) : ((low8 b).toNat : Int) = lowI b.toNat := by
 unfold low8 lowI
 have hb : b.toNat < 256 := b.toNat_lt
 by_cases h : 65 ≤ b.toNat ∧ b.toNat ≤ 90
 ·rw [if_pos h, if_pos (by omega), UInt8.toNat_add]
  show (((b.toNat + 32) % 256 : Nat) : Int) = _
  omega
 ·rw [if_neg h, if_neg (by omega)]
theorem lowB_size (s : ByteArray) : (lowB s).size = s.size := by
 show (lowL s.data.toList).toArray.size = s.size
 unfold lowL
 simp
def wordP (s : ByteArray) : ByteArray × Nat × Int :=
 if s.size = 0 then (⟨#[]⟩, 0, 2)
 else if tokN s.data.toList = 0 then (⟨#[]⟩, 0, 3)
 else match parsF (s.data.toList.drop (tokN s.data.toList)) with
  | none => (⟨#[]⟩, 0, 3)
  | some k => (lowB (s.extract 0 (tokN s.data.toList)), k, 0)
theorem skipN_le (l : List UInt8) : skipN l ≤ l.length := by unfold skipN; exact List.Sublist.length_le (List.takeWhile_sublist _)
theorem tokN_le (l : List UInt8) : tokN l ≤ l.length := by unfold tokN; exact List.Sublist.length_le (List.takeWhile_sublist _)
theorem qtL_le : ∀ (n : Nat) (l : List UInt8) (p : Nat × List UInt8), l.length ≤ n → qtL l = some p → 1 ≤ p.1 ∧ p.1 ≤ l.length ∧ p.2.length ≤ l.length
 | _, [], _, _, h => by rw [qtL] at h; cases h
 | 0, b :: t, _, hn, _ => by simp at hn
 | n + 1, b :: t, p, hn, h => by
   have ht : t.length ≤ n := by simpa using hn
   rw [qtL.eq_def] at h
   simp only at h
   split at h
   ·cases h; simp
   split at h
   ·cases t with
    | nil => cases h
    | cons c r =>
      simp only at h
      split at h
      ·cases hq : qtL r with
       | none => rw [hq] at h; cases h
       | some q =>
         rw [hq] at h
         cases h
         have := qtL_le n r q (by simp at ht; omega) hq
         simp only [List.length_cons]
         omega
      ·cases h
   split at h
   ·cases hq : qtL t with
    | none => rw [hq] at h; cases h
    | some q =>
      rw [hq] at h
      cases h
      have := qtL_le n t q ht hq
      simp only [List.length_cons]
      omega
   ·cases h
theorem quL_le {l : List UInt8} {p : Nat × List UInt8} (h : quL l = some p) : 2 ≤ p.1 ∧ p.1 ≤ l.length ∧ p.2.length ≤ l.length := by
 cases l with
 | nil => cases h
 | cons b t =>
   unfold quL at h
   simp only at h
   split at h
   ·cases hq : qtL t with
    | none => rw [hq] at h; cases h
    | some q =>
      rw [hq] at h
      cases h
      have := qtL_le _ t q (nR _) hq
      simp only [List.length_cons]
      omega
   ·cases h
theorem drop_cons_le {l r : List UInt8} {n : Nat} {b : UInt8} (h : l.drop n = b :: r) : n + 1 + r.length = l.length := by
 have := congrArg List.length h
 rw [List.length_drop, List.length_cons] at this
 have : n < l.length := by omega
 omega
theorem valF_le {l : List UInt8} {n : Nat} (h : valF l = some n) : n ≤ l.length := by
 unfold valF at h
 split at h
 ·cases h; omega
 ·rename_i b r hb
  have h1 := drop_cons_le hb
  have h2 := skipN_le r
  split at h
  ·split at h
   ·cases h
    have := tokN_le (r.drop (skipN r))
    rw [List.length_drop] at this
    omega
   ·cases hq : quL (r.drop (skipN r)) with
    | none => rw [hq] at h; cases h
    | some q =>
      rw [hq] at h
      cases h
      have := quL_le hq
      rw [List.length_drop] at this
      dsimp only
      omega
  ·cases h; omega
theorem parF_le {l : List UInt8} {n : Nat} (h : parF l = some n) : 2 ≤ n ∧ n ≤ l.length := by
 unfold parF at h
 split at h
 ·cases h
 ·rename_i b r hb
  have h1 := drop_cons_le hb
  have h2 := skipN_le r
  split at h
  ·split at h
   ·cases h
   ·rename_i h3
    have h4 := tokN_le (r.drop (skipN r))
    rw [List.length_drop] at h4
    cases hv : valF (r.drop (skipN r + tokN (r.drop (skipN r)))) with
    | none => rw [hv] at h; cases h
    | some m =>
      rw [hv] at h
      cases h
      have := valF_le hv
      rw [List.length_drop] at this
      dsimp only
      omega
  ·cases h
theorem parsF_step {l : List UInt8} (hl : l ≠ []) : parsF l = match parF l with | none => none | some n => (parsF (l.drop n)).map (· + 1) := by
 cases l with
 | nil => exact absurd rfl hl
 | cons c t =>
   rw [parsF]
   cases hp : parF (c :: t) with
   | none => rfl
   | some n =>
     have := parF_le hp
     obtain ⟨m, rfl⟩ : ∃ m, n = m + 1 := ⟨n - 1, by omega⟩
     rfl
theorem parsF_nil : parsF [] = some 0 := by rw [parsF]
end Go.Proofs.YtaojfiegnebbdaaGreatDoor
-- LsP
namespace Go.Proofs.YtaojfiegnebbdaaGreatDoor
open Go.RowKit
structure Sc where
 q : Bool
 s : Bool
 d : Nat
def scz : Sc := ⟨false, false, 0⟩
def Sc.closed (x : Sc) : Bool := !x.q && (!x.s && x.d == 0)
def Sc.see (x : Sc) (c : Int) : Sc :=
 if x.s = true then ⟨x.q, false, x.d⟩
 else if c = 92 then ⟨x.q, x.q || decide (0 < x.d), x.d⟩
 else if x.q = true then ⟨decide (c ≠ 34), false, x.d⟩
 else if c = 40 then ⟨false, false, x.d + 1⟩
 else if 0 < x.d then (if c = 41 then ⟨false, false, x.d - 1⟩ else ⟨false, false, x.d⟩)
 else if c = 34 then ⟨true, false, 0⟩
 else ⟨false, false, 0⟩
theorem closed_z {x : Sc} (h : x.closed = true) : x = scz := by
 obtain ⟨q, s, d⟩ := x
 unfold Sc.closed at h
 cases q <;> cases s <;> simp at h ⊢
 subst h
 rfl
def scfin : Sc → List UInt8 → Sc
 | x, [] => x
 | x, c :: l => scfin (x.see c.toNat) l
def pcs : Sc → List UInt8 → List UInt8 → List (List UInt8)
 | _, a, [] => [a]
 | x, a, c :: l => if (c == 44 && x.closed) = true then a :: pcs x [] l else pcs (x.see c.toNat) (a ++ [c]) l
def someL (ps : List (List UInt8)) : List ByteArray := (ps.map fun p => (⟨(trimL p).toArray⟩ : ByteArray)).filter fun e => !e.toList.isEmpty
def splitP (s : ByteArray) : Option (List ByteArray) :=
 if (scfin scz s.data.toList).closed = true then some (someL (pcs scz [] s.data.toList)) else none
end Go.Proofs.YtaojfiegnebbdaaGreatDoor
-- LsW
namespace Go.Proofs.YtaojfiegnebbdaaGreatDoor
open Go.RowKit
def Sc.row (x : Sc) : Array Value := #[.bool x.q, .bool x.s, .int .i64 (x.d : Int)]
theorem sc_st0 {w : World} {g : Nat} {q s : Bool} {d : Int} (h : Blk w g #[.bool q, .bool s, .int .i64 d] 195) (v : Bool) : Blk (w.setCell ⟨g, 0, none⟩ (.bool v)) g #[.bool v, .bool s, .int .i64 d] 195 := by
 have := h.set 0 (.bool v)
 simpa using this
theorem sc_st1 {w : World} {g : Nat} {q s : Bool} {d : Int} (h : Blk w g #[.bool q, .bool s, .int .i64 d] 195) (v : Bool) : Blk (w.setCell ⟨g, 1, none⟩ (.bool v)) g #[.bool q, .bool v, .int .i64 d] 195 := by
 have := h.set 1 (.bool v)
 simpa using this
theorem sc_st2 {w : World} {g : Nat} {q s : Bool} {d : Int} (h : Blk w g #[.bool q, .bool s, .int .i64 d] 195) (v : Int) : Blk (w.setCell ⟨g, 2, none⟩ (.int .i64 v)) g #[.bool q, .bool s, .int .i64 v] 195 := by
 have := h.set 2 (.int .i64 v)
 simpa using this
theorem see_sl {w : World} {g : Nat} {q : Bool} {d : Nat} {c : Int} (h : Blk w g #[.bool q, .bool true, .int .i64 (d : Int)] 195)  :
 Calls Tryz.prog 186 #[.pointer (some ⟨g, 0, none⟩), .int .u8 c] w fun e w' => e = .returned (.tuple #[]) ∧ Blk w' g (Sc.see ⟨q, true, d⟩ c).row 195 ∧ Touch (fun k => k = g) w w' := by
 have H := lH h
 obtain ⟨k0, k1, k2⟩ := bc3 h 0 1 2
 obtain ⟨f0, f1, f2⟩ := bf3 h 0 1 2
 simp at k0 k1 k2
 have HV : Hid (Sc.see ⟨q, true, d⟩ c = ⟨q, false, d⟩) := by show _ = _; simp [Sc.see]
 clear h
 go_enter Tryz.func186, Tryz.ntmps186
 go_wp2_with fail
 go_end0
 rw [HV.out]
 refine ⟨rfl, ?_, Touch.setCell (P := fun k => k = g) (Touch.refl _ _) rfl _⟩
 have := sc_st1 H.out false
 simpa [Sc.row] using this
theorem see_bsq {w : World} {g : Nat} {d : Nat} {c : Int} (h : Blk w g #[.bool true, .bool false, .int .i64 (d : Int)] 195) (h1 : c = 92) :
 Calls Tryz.prog 186 #[.pointer (some ⟨g, 0, none⟩), .int .u8 c] w fun e w' => e = .returned (.tuple #[]) ∧ Blk w' g (Sc.see ⟨true, false, d⟩ c).row 195 ∧ Touch (fun k => k = g) w w' := by
 have H := lH h
 obtain ⟨k0, k1, k2⟩ := bc3 h 0 1 2
 obtain ⟨f0, f1, f2⟩ := bf3 h 0 1 2
 simp at k0 k1 k2
 subst h1
 have HV : Hid (Sc.see ⟨true, false, d⟩ 92 = ⟨true, true, d⟩) := by show _ = _; simp [Sc.see]
 clear h
 go_enter Tryz.func186, Tryz.ntmps186
 go_wp2_with fail
 go_end0
 rw [HV.out]
 refine ⟨rfl, ?_, Touch.setCell (P := fun k => k = g) (Touch.refl _ _) rfl _⟩
 have := sc_st1 H.out true
 simpa [Sc.row] using this
theorem see_bsd {w : World} {g : Nat} {d : Nat} {c : Int} (h : Blk w g #[.bool false, .bool false, .int .i64 (d : Int)] 195) (h1 : c = 92) (hd : 0 < d) :
 Calls Tryz.prog 186 #[.pointer (some ⟨g, 0, none⟩), .int .u8 c] w fun e w' => e = .returned (.tuple #[]) ∧ Blk w' g (Sc.see ⟨false, false, d⟩ c).row 195 ∧ Touch (fun k => k = g) w w' := by
 have H := lH h
 obtain ⟨k0, k1, k2⟩ := bc3 h 0 1 2
 obtain ⟨f0, f1, f2⟩ := bf3 h 0 1 2
 simp at k0 k1 k2
 have d1 : decide ((0 : Int) < (d : Int)) = true := dT (by omega)
 have HV : Hid (Sc.see ⟨false, false, d⟩ c = ⟨false, true, d⟩) := by show _ = _; rw [h1]; simp [Sc.see, hd]
 subst h1
 clear h
 go_enter Tryz.func186, Tryz.ntmps186
 go_wp2_with fail
 go_end0
 rw [HV.out]
 refine ⟨rfl, ?_, Touch.setCell (P := fun k => k = g) (Touch.refl _ _) rfl _⟩
 have := sc_st1 H.out true
 simpa [Sc.row] using this
theorem see_bsn {w : World} {g : Nat} {c : Int} (h : Blk w g #[.bool false, .bool false, .int .i64 0] 195) (h1 : c = 92) :
 Calls Tryz.prog 186 #[.pointer (some ⟨g, 0, none⟩), .int .u8 c] w fun e w' => e = .returned (.tuple #[]) ∧ Blk w' g (Sc.see ⟨false, false, 0⟩ c).row 195 ∧ Touch (fun k => k = g) w w' := by
 have H := lH h
 obtain ⟨k0, k1, k2⟩ := bc3 h 0 1 2
 obtain ⟨f0, f1, f2⟩ := bf3 h 0 1 2
 simp at k0 k1 k2
 subst h1
 have HV : Hid (Sc.see ⟨false, false, 0⟩ 92 = ⟨false, false, 0⟩) := by show _ = _; simp [Sc.see]
 clear h
 go_enter Tryz.func186, Tryz.ntmps186
 go_wp2_with fail
 go_end0
 rw [HV.out]
 refine ⟨rfl, ?_, Touch.setCell (P := fun k => k = g) (Touch.refl _ _) rfl _⟩
 have := sc_st1 H.out false
 simpa [Sc.row] using this
theorem see_qq {w : World} {g : Nat} {d : Nat} {c : Int} (h : Blk w g #[.bool true, .bool false, .int .i64 (d : Int)] 195) (h1 : c = 34) :
 Calls Tryz.prog 186 #[.pointer (some ⟨g, 0, none⟩), .int .u8 c] w fun e w' => e = .returned (.tuple #[]) ∧ Blk w' g (Sc.see ⟨true, false, d⟩ c).row 195 ∧ Touch (fun k => k = g) w w' := by
 have H := lH h
 obtain ⟨k0, k1, k2⟩ := bc3 h 0 1 2
 obtain ⟨f0, f1, f2⟩ := bf3 h 0 1 2
 simp at k0 k1 k2
 subst h1
 have HV : Hid (Sc.see ⟨true, false, d⟩ 34 = ⟨false, false, d⟩) := by show _ = _; simp [Sc.see]
 clear h
 go_enter Tryz.func186, Tryz.ntmps186
 go_wp2_with fail
 go_end0
 rw [HV.out]
 refine ⟨rfl, ?_, Touch.setCell (P := fun k => k = g) (Touch.refl _ _) rfl _⟩
 have := sc_st0 H.out false
 simpa [Sc.row] using this
theorem see_qo {w : World} {g : Nat} {d : Nat} {c : Int} (h : Blk w g #[.bool true, .bool false, .int .i64 (d : Int)] 195) (h1 : c ≠ 92) (h2 : c ≠ 34) :
 Calls Tryz.prog 186 #[.pointer (some ⟨g, 0, none⟩), .int .u8 c] w fun e w' => e = .returned (.tuple #[]) ∧ Blk w' g (Sc.see ⟨true, false, d⟩ c).row 195 ∧ Touch (fun k => k = g) w w' := by
 have H := lH h
 obtain ⟨k0, k1, k2⟩ := bc3 h 0 1 2
 obtain ⟨f0, f1, f2⟩ := bf3 h 0 1 2
 simp at k0 k1 k2
 have HV : Hid (Sc.see ⟨true, false, d⟩ c = ⟨true, false, d⟩) := by show _ = _; unfold Sc.see; simp [h1, h2]
 have x92a : (c == 92) = false := by rw [beq_eq_false_iff_ne]; exact h1
 have x92b : (c != 92) = true := by rw [bne_iff_ne]; exact h1
 have x92d : decide (c = 92) = false := dF h1
 have x34a : (c == 34) = false := by rw [beq_eq_false_iff_ne]; exact h2
 have x34b : (c != 34) = true := by rw [bne_iff_ne]; exact h2
 have x34d : decide (c = 34) = false := dF h2
 clear h h1 h2
 go_enter Tryz.func186, Tryz.ntmps186
 go_wp2_with fail
 go_end0
 rw [HV.out]
 refine ⟨rfl, ?_, Touch.setCell (P := fun k => k = g) (Touch.refl _ _) rfl _⟩
 have := sc_st0 H.out true
 simpa [Sc.row] using this
theorem see_op {w : World} {g : Nat} {d : Nat} {c : Int} (h : Blk w g #[.bool false, .bool false, .int .i64 (d : Int)] 195) (h1 : c = 40) (hd : d ≤ 1000000) :
 Calls Tryz.prog 186 #[.pointer (some ⟨g, 0, none⟩), .int .u8 c] w fun e w' => e = .returned (.tuple #[]) ∧ Blk w' g (Sc.see ⟨false, false, d⟩ c).row 195 ∧ Touch (fun k => k = g) w w' := by
 have H := lH h
 obtain ⟨k0, k1, k2⟩ := bc3 h 0 1 2
 obtain ⟨f0, f1, f2⟩ := bf3 h 0 1 2
 simp at k0 k1 k2
 subst h1
 have HV : Hid (Sc.see ⟨false, false, d⟩ 40 = ⟨false, false, (d + 1)⟩) := by show _ = _; simp [Sc.see]
 clear h
 go_enter Tryz.func186, Tryz.ntmps186
 go_wp2_with fail
 go_end0
 rw [HV.out]
 refine ⟨rfl, ?_, Touch.setCell (P := fun k => k = g) (Touch.refl _ _) rfl _⟩
 have := sc_st2 H.out ((d : Int) + 1)
 simpa [Sc.row] using this
theorem see_cl {w : World} {g : Nat} {d : Nat} {c : Int} (h : Blk w g #[.bool false, .bool false, .int .i64 ((d + 1 : Nat) : Int)] 195) (h1 : c = 41) (hd : d ≤ 1000000) :
 Calls Tryz.prog 186 #[.pointer (some ⟨g, 0, none⟩), .int .u8 c] w fun e w' => e = .returned (.tuple #[]) ∧ Blk w' g (Sc.see ⟨false, false, (d + 1)⟩ c).row 195 ∧ Touch (fun k => k = g) w w' := by
 have H := lH h
 obtain ⟨k0, k1, k2⟩ := bc3 h 0 1 2
 obtain ⟨f0, f1, f2⟩ := bf3 h 0 1 2
 simp at k0 k1 k2
 have d1 : decide ((0 : Int) < ((d + 1 : Nat) : Int)) = true := dT (by omega)
 subst h1
 have HV : Hid (Sc.see ⟨false, false, (d + 1)⟩ 41 = ⟨false, false, d⟩) := by show _ = _; simp [Sc.see]
 clear h
 go_enter Tryz.func186, Tryz.ntmps186
 go_wp2_with fail
 go_end0
 rw [HV.out]
 refine ⟨rfl, ?_, Touch.setCell (P := fun k => k = g) (Touch.refl _ _) rfl _⟩
 have := sc_st2 H.out (d : Int)
 simpa [Sc.row] using this
theorem see_in {w : World} {g : Nat} {d : Nat} {c : Int} (h : Blk w g #[.bool false, .bool false, .int .i64 ((d + 1 : Nat) : Int)] 195) (h1 : c ≠ 92) (h2 : c ≠ 40) (h3 : c ≠ 41) (hd : d ≤ 1000000) :
 Calls Tryz.prog 186 #[.pointer (some ⟨g, 0, none⟩), .int .u8 c] w fun e w' => e = .returned (.tuple #[]) ∧ Blk w' g (Sc.see ⟨false, false, (d + 1)⟩ c).row 195 ∧ Touch (fun k => k = g) w w' := by
 have H := lH h
 obtain ⟨k0, k1, k2⟩ := bc3 h 0 1 2
 obtain ⟨f0, f1, f2⟩ := bf3 h 0 1 2
 simp at k0 k1 k2
 have HV : Hid (Sc.see ⟨false, false, (d + 1)⟩ c = ⟨false, false, (d + 1)⟩) := by show _ = _; unfold Sc.see; simp [h1, h2, h3]
 have x92a : (c == 92) = false := by rw [beq_eq_false_iff_ne]; exact h1
 have x92b : (c != 92) = true := by rw [bne_iff_ne]; exact h1
 have x92d : decide (c = 92) = false := dF h1
 have x40a : (c == 40) = false := by rw [beq_eq_false_iff_ne]; exact h2
 have x40b : (c != 40) = true := by rw [bne_iff_ne]; exact h2
 have x40d : decide (c = 40) = false := dF h2
 have x41a : (c == 41) = false := by rw [beq_eq_false_iff_ne]; exact h3
 have x41b : (c != 41) = true := by rw [bne_iff_ne]; exact h3
 have x41d : decide (c = 41) = false := dF h3
 have d1 : decide ((0 : Int) < ((d + 1 : Nat) : Int)) = true := dT (by omega)
 have d2 : (((d + 1 : Nat) : Int) == 0) = false := by rw [beq_eq_false_iff_ne]; omega
 clear h h1 h2 h3
 go_enter Tryz.func186, Tryz.ntmps186
 go_wp2_with fail
 go_end0
 rw [HV.out]
 exact ⟨rfl, H.out, Touch.refl _ _⟩
theorem see_qn {w : World} {g : Nat} {c : Int} (h : Blk w g #[.bool false, .bool false, .int .i64 0] 195) (h1 : c = 34) :
 Calls Tryz.prog 186 #[.pointer (some ⟨g, 0, none⟩), .int .u8 c] w fun e w' => e = .returned (.tuple #[]) ∧ Blk w' g (Sc.see ⟨false, false, 0⟩ c).row 195 ∧ Touch (fun k => k = g) w w' := by
 have H := lH h
 obtain ⟨k0, k1, k2⟩ := bc3 h 0 1 2
 obtain ⟨f0, f1, f2⟩ := bf3 h 0 1 2
 simp at k0 k1 k2
 subst h1
 have HV : Hid (Sc.see ⟨false, false, 0⟩ 34 = ⟨true, false, 0⟩) := by show _ = _; simp [Sc.see]
 clear h
 go_enter Tryz.func186, Tryz.ntmps186
 go_wp2_with fail
 go_end0
 rw [HV.out]
 refine ⟨rfl, ?_, Touch.setCell (P := fun k => k = g) (Touch.refl _ _) rfl _⟩
 have := sc_st0 H.out true
 simpa [Sc.row] using this
theorem see_ot {w : World} {g : Nat} {c : Int} (h : Blk w g #[.bool false, .bool false, .int .i64 0] 195) (h1 : c ≠ 92) (h2 : c ≠ 40) (h3 : c ≠ 34) :
 Calls Tryz.prog 186 #[.pointer (some ⟨g, 0, none⟩), .int .u8 c] w fun e w' => e = .returned (.tuple #[]) ∧ Blk w' g (Sc.see ⟨false, false, 0⟩ c).row 195 ∧ Touch (fun k => k = g) w w' := by
 have H := lH h
 obtain ⟨k0, k1, k2⟩ := bc3 h 0 1 2
 obtain ⟨f0, f1, f2⟩ := bf3 h 0 1 2
 simp at k0 k1 k2
 have HV : Hid (Sc.see ⟨false, false, 0⟩ c = ⟨false, false, 0⟩) := by show _ = _; unfold Sc.see; simp [h1, h2, h3]
 have x92a : (c == 92) = false := by rw [beq_eq_false_iff_ne]; exact h1
 have x92b : (c != 92) = true := by rw [bne_iff_ne]; exact h1
 have x92d : decide (c = 92) = false := dF h1
 have x40a : (c == 40) = false := by rw [beq_eq_false_iff_ne]; exact h2
 have x40b : (c != 40) = true := by rw [bne_iff_ne]; exact h2
 have x40d : decide (c = 40) = false := dF h2
 have x34a : (c == 34) = false := by rw [beq_eq_false_iff_ne]; exact h3
 have x34b : (c != 34) = true := by rw [bne_iff_ne]; exact h3
 have x34d : decide (c = 34) = false := dF h3
 clear h h1 h2 h3
 go_enter Tryz.func186, Tryz.ntmps186
 go_wp2_with fail
 go_end0
 rw [HV.out]
 exact ⟨rfl, H.out, Touch.refl _ _⟩
theorem scsee_any {w : World} {g : Nat} (x : Sc) (c : Int) (h : Blk w g x.row 195) (hd : x.d ≤ 1000000) :
 Calls Tryz.prog 186 #[.pointer (some ⟨g, 0, none⟩), .int .u8 c] w fun e w' => e = .returned (.tuple #[]) ∧ Blk w' g (x.see c).row 195 ∧ Touch (fun k => k = g) w w' := by
 obtain ⟨q, s, d⟩ := x
 simp only at hd
 cases s with
 | true => exact see_sl h
 | false =>
   by_cases h92 : c = 92
   ·cases q with
    | true => exact see_bsq h h92
    | false =>
      cases d with
      | zero => exact see_bsn h h92
      | succ d => exact see_bsd h h92 (Nat.succ_pos d)
   cases q with
   | true =>
     by_cases h34 : c = 34
     ·exact see_qq h h34
     ·exact see_qo h h92 h34
   | false =>
     by_cases h40 : c = 40
     ·exact see_op h h40 hd
     cases d with
     | zero =>
       by_cases h34 : c = 34
       ·exact see_qn h h34
       ·exact see_ot h h92 h40 h34
     | succ d =>
       by_cases h41 : c = 41
       ·exact see_cl h h41 (by omega)
       ·exact see_in h h92 h40 h41 (by omega)
theorem closed_any {w : World} {g : Nat} (x : Sc) (h : Blk w g x.row 195) :
 Calls Tryz.prog 187 #[.pointer (some ⟨g, 0, none⟩)] w fun e w' => e = .returned (.bool x.closed) ∧ w = w' := by
 obtain ⟨q, s, d⟩ := x
 obtain ⟨k0, k1, k2⟩ := bc3 h 0 1 2
 simp [Sc.row] at k0 k1 k2
 obtain ⟨Z, hZ⟩ : ∃ Z, Z = ((d : Int) == 0) := ⟨_, rfl⟩
 have hz : ((d : Int) == 0) = Z := hZ.symm
 have HV : Hid ((⟨q, s, d⟩ : Sc).closed = (!q && (!s && Z))) := by
  have e : (d == 0) = ((d : Int) == 0) := by rw [Bool.eq_iff_iff, beq_iff_eq, beq_iff_eq]; omega
  show _ = _
  unfold Sc.closed
  rw [hZ, ← e]
 clear hZ h
 cases q <;> cases s <;> cases Z
 all_goals
  go_enter Tryz.func187, Tryz.ntmps187
  go_wp2_with fail
  go_ret
  rw [HV.out]
  exact ⟨rfl, rfl⟩
theorem see_d (x : Sc) (c : Int) : (x.see c).d ≤ x.d + 1 := by
 obtain ⟨q, s, d⟩ := x
 unfold Sc.see
 simp only
 repeat' split
 all_goals first | exact Nat.le_succ _ | exact nR _ | exact Nat.zero_le _ | exact nT (Nat.sub_le _ _) (Nat.le_succ _)
theorem bt_drop (s : ByteArray) (k : Nat) (h : k < s.size) : ∃ c : UInt8, bt s k = c.toNat ∧ s.data.toList.drop k = c :: s.data.toList.drop (k + 1) := by
 refine ⟨s[k]'h, bt_get s k h, ?_⟩
 have := List.drop_eq_getElem_cons (l := s.data.toList) (i := k) (by simpa using h)
 exact this
theorem drop_size (s : ByteArray) : s.data.toList.drop s.size = [] := List.drop_of_length_le (by simp)
theorem ends_any (s : ByteArray) (hs : s.size ≤ 1000000) (w : World) :
 Calls Tryz.prog 160 #[.string s] w fun e w' => e = .returned (.bool (scfin scz s.data.toList).closed) ∧ Below w.heap.size w w' := by
 obtain ⟨F, hF⟩ : ∃ F, F = scfin scz s.data.toList := ⟨_, rfl⟩
 have HF := lH hF
 rw [← hF]
 clear hF
 have hsi : (s.size : Int) ≤ 1000000 := by omega
 go_enter Tryz.func160, Tryz.ntmps160
 go_wp2_with fail
 go_loopw [7] (fun i wr => ∃ (k : Nat) (x : Sc), k ≤ s.size ∧ i = .int .i64 k ∧ scfin x (s.data.toList.drop k) = F ∧ x.d ≤ k ∧ Blk wr w.heap.size x.row 195 ∧ Below w.heap.size w wr) (fun i _ => s.size - (intOf i).toNat)
 case atStart => exact ⟨0, scz, Nat.zero_le _, rfl, HF.out.symm, nR _, Blk.new _ _ _, (Below.refl _ _).alloc (nR _) _⟩
 case round =>
  obtain ⟨k, x, hk, rfl, hx, hd, hb, hbel⟩ := hrel
  have HX := lH hx
  have HB := lH hb
  have HBE := lH hbel
  have HD := lH hd
  clear hx hb hbel
  by_cases hlt : k < s.size
  ·have hix := index_bt s k hlt
   obtain ⟨c, hc, hdr⟩ := bt_drop s k hlt
   obtain ⟨b, hb⟩ : ∃ b, b = bt s k := ⟨_, rfl⟩
   rw [← hb] at hix
   have HN : Hid (scfin (x.see b) (s.data.toList.drop (k + 1)) = F) := by
    show _ = _
    rw [← HX.out, hdr, hb, hc]
    rfl
   have hk1 : decide ((k : Int) < (s.size : Int)) = true := dT (by omega)
   clear hc hdr hb
   go_wp2_with (go_at_call 186; refine (scsee_any x b HB.out (nT HD.out (nT hk hs))).mono ?_; rintro e' w' ⟨rfl, hb', ht'⟩; have HB' := lH hb'; have HBE' := lH (HBE.out.trans (ht'.below (B := w.heap.size) (fun j _ hj => by rw [hj]; exact nR _) HBE.out.size)); clear hb' ht')
   go_roundw
   case rel => exact ⟨k + 1, x.see b, hlt, by go_num, HN.out, nT (see_d x b) (Nat.succ_le_succ HD.out), HB'.out, HBE'.out⟩
   case measure => simp [intOf]; omega
  ·have hk1 : decide ((k : Int) < (s.size : Int)) = false := dF (by omega)
   have hkn : k = s.size := by omega
   have HE : Hid (x = F) := by
    show x = F
    rw [← HX.out, hkn, drop_size]
    rfl
   clear hkn
   go_wp2_with (go_at_call 187; refine (closed_any x HB.out).mono ?_; rintro e' w' ⟨rfl, rfl⟩)
   go_ret
   rw [HE.out]
   exact ⟨rfl, HBE.out⟩
end Go.Proofs.YtaojfiegnebbdaaGreatDoor
-- HostP
namespace Go.Proofs.YtaojfiegnebbdaaGreatDoor
open Go.RowKit
def hexI (c : Int) : Bool := decide (48 ≤ c ∧ c ≤ 57 ∨ 65 ≤ c ∧ c ≤ 70 ∨ 97 ≤ c ∧ c ≤ 102)
def signI (c : Int) : Bool := decide (c = 45 ∨ c = 46 ∨ c = 95 ∨ c = 126 ∨ c = 33 ∨ c = 36 ∨ c = 38 ∨ c = 39 ∨ c = 40 ∨ c = 41 ∨ c = 42 ∨ c = 43 ∨ c = 44 ∨ c = 59 ∨ c = 61)
def plainI (c : Int) : Bool := decide (48 ≤ c ∧ c ≤ 57 ∨ 65 ≤ c ∧ c ≤ 90 ∨ 97 ≤ c ∧ c ≤ 122) || signI c
def hxB (b : UInt8) : Bool := hexI b.toNat
def plainB (b : UInt8) : Bool := plainI b.toNat
def litI (c : Int) : Bool := hexI c || decide (c = 58 ∨ c = 46)
def litB (b : UInt8) : Bool := litI b.toNat
def regS : Nat → List UInt8 → Bool
 | k, [] => k == 0
 | 0, c :: t => if c = 37 then regS 2 t else if plainB c = true then regS 0 t else false
 | k + 1, c :: t => if hxB c = true then regS k t else false
def regP (l : List UInt8) : Bool := !l.isEmpty && regS 0 l
def regF : List UInt8 → Option Nat
 | [] => some 0
 | c :: t => if c = 37 then
     (match t with
      | a :: b :: r => if hxB a = true ∧ hxB b = true then (regF r).map (· + 3) else none
      | _ => none)
   else if plainB c = true then (regF t).map (· + 1) else some 0
def litP (l : List UInt8) : Bool :=
 match l with
 | [] => false
 | c :: t => c == 91 && (t.getLast? == some 93 && (!t.dropLast.isEmpty && t.dropLast.all litB))
def litN (l : List UInt8) : Nat := (l.takeWhile litB).length
def nameN (l : List UInt8) : Nat :=
 match l with
 | [] => 0
 | c :: t => if c = 91 then (if litN t = 0 then 0 else if t[litN t]? = some 93 then litN t + 2 else 0) else (regF (c :: t)).getD 0
def hostR (l : List UInt8) : Nat × Int × Int :=
 if l.isEmpty then (0, 0, 2)
 else if nameN l = 0 then (0, 0, 3)
 else if nameN l = l.length then (l.length, 80, 0)
 else if l[nameN l]? ≠ some 58 then (0, 0, 3)
 else if (numRes (l.drop (nameN l + 1)) 10 65535).2 = 5 then (0, 0, 5)
 else if (numRes (l.drop (nameN l + 1)) 10 65535).2 ≠ 0 then (0, 0, 3)
 else (nameN l, (numRes (l.drop (nameN l + 1)) 10 65535).1, 0)
def hostP (l : List UInt8) (I J : Int) : Nat × Int × Int :=
 if l.isEmpty then (0, 0, 2)
 else if I < J ∨ I < 0 then (if (regP l || litP l) = true then (l.length, 80, 0) else (0, 0, 3))
 else if (regP (l.take I.toNat) || litP (l.take I.toNat)) = true then
  (if (numRes (l.drop (I.toNat + 1)) 10 65535).2 = 5 then (0, 0, 5)
   else if (numRes (l.drop (I.toNat + 1)) 10 65535).2 ≠ 0 then (0, 0, 3)
   else (I.toNat, (numRes (l.drop (I.toNat + 1)) 10 65535).1, 0))
 else (0, 0, 3)
theorem regS_bad {c : UInt8} (h1 : hxB c = false) (h2 : plainB c = false) (h3 : c ≠ 37) : ∀ (l : List UInt8) (k : Nat), c ∈ l → regS k l = false
 | [], _, h => by cases h
 | b :: t, 0, h => by
   rw [regS]
   rcases List.mem_cons.1 h with e | h
   ·subst e
    rw [if_neg h3, if_neg (by rw [h2]; decide)]
   ·split
    ·exact regS_bad h1 h2 h3 t 2 h
    ·split
     ·exact regS_bad h1 h2 h3 t 0 h
     ·rfl
 | b :: t, k + 1, h => by
   rw [regS]
   rcases List.mem_cons.1 h with e | h
   ·subst e
    rw [if_neg (by rw [h1]; decide)]
   ·split
    ·exact regS_bad h1 h2 h3 t k h
    ·rfl
theorem regF_some : ∀ (m : Nat) (l : List UInt8) (n : Nat), l.length ≤ m → regF l = some n → n ≤ l.length ∧ regS 0 (l.take n) = true
 | _, [], n, _, h => by rw [regF] at h; cases h; exact ⟨nR _, rfl⟩
 | 0, c :: t, _, hm, _ => by simp at hm
 | m + 1, c :: t, n, hm, h => by
   have ht : t.length ≤ m := by simpa using hm
   rw [regF.eq_def] at h
   simp only at h
   by_cases h37 : c = 37
   ·rw [if_pos h37] at h
    match t, ht, h with
    | a :: b :: r, ht, h =>
      simp only at h
      by_cases hh : hxB a = true ∧ hxB b = true
      ·rw [if_pos hh] at h
       cases hr : regF r with
       | none => rw [hr] at h; cases h
       | some q =>
         rw [hr] at h
         cases h
         have := regF_some m r q (by simp at ht; omega) hr
         refine ⟨by simp only [List.length_cons]; omega, ?_⟩
         show regS 0 (c :: a :: b :: r.take q) = true
         rw [regS, if_pos h37, regS, if_pos hh.1, regS, if_pos hh.2]
         exact this.2
      ·rw [if_neg hh] at h; cases h
    | [], _, h => cases h
    | [_], _, h => cases h
   ·rw [if_neg h37] at h
    by_cases hp : plainB c = true
    ·rw [if_pos hp] at h
     cases hr : regF t with
     | none => rw [hr] at h; cases h
     | some q =>
       rw [hr] at h
       cases h
       have := regF_some m t q ht hr
       refine ⟨by simp only [List.length_cons]; omega, ?_⟩
       show regS 0 (c :: t.take q) = true
       rw [regS, if_neg h37, if_pos hp]
       exact this.2
    ·rw [if_neg hp] at h
     cases h
     exact ⟨Nat.zero_le _, rfl⟩
theorem regF_of : ∀ (m : Nat) (p q : List UInt8), p.length ≤ m → regS 0 p = true → (∀ c, q.head? = some c → plainB c = false ∧ c ≠ 37) → regF (p ++ q) = some p.length
 | _, [], q, _, _, hq => by
   cases q with
   | nil => rw [List.append_nil, regF]; rfl
   | cons c t =>
     have := hq c rfl
     rw [List.nil_append, regF.eq_def]
     simp only
     rw [if_neg this.2, if_neg (by rw [this.1]; decide)]
     rfl
 | 0, c :: t, _, hm, _, _ => by simp at hm
 | m + 1, c :: t, q, hm, h, hq => by
   have ht : t.length ≤ m := by simpa using hm
   rw [regS] at h
   rw [List.cons_append, regF.eq_def]
   simp only
   by_cases h37 : c = 37
   ·rw [if_pos h37] at h ⊢
    match t, ht, h with
    | [], _, h => rw [regS] at h; cases h
    | [a], _, h =>
      rw [regS] at h
      split at h
      ·rw [regS] at h; cases h
      ·cases h
    | a :: b :: r, ht, h =>
      rw [regS] at h
      split at h
      ·rename_i ha
       rw [regS] at h
       split at h
       ·rename_i hb
        have := regF_of m r q (by simp at ht; omega) h hq
        simp only [List.cons_append]
        rw [if_pos ⟨ha, hb⟩, this]
        rfl
       ·cases h
      ·cases h
   ·rw [if_neg h37] at h ⊢
    split at h
    ·rename_i hp
     rw [if_pos hp, regF_of m t q ht h hq]
     rfl
    ·cases h
theorem takeWhile_app {α : Type} {f : α → Bool} : ∀ (p q : List α), (∀ b ∈ p, f b = true) → (∀ c, q.head? = some c → f c = false) → (p ++ q).takeWhile f = p
 | [], q, _, hq => by
   cases q with
   | nil => rfl
   | cons c t => rw [List.nil_append, List.takeWhile_cons, hq c rfl]; rfl
 | b :: p, q, hp, hq => by
   rw [List.cons_append, List.takeWhile_cons, hp b (by simp), if_pos rfl, takeWhile_app p q (fun x hx => hp x (by simp [hx])) hq]
theorem last_app {l : List UInt8} {a : UInt8} (h : l.getLast? = some a) : l.dropLast ++ [a] = l := by
 rcases List.eq_nil_or_concat l with rfl | ⟨p, b, rfl⟩
 ·cases h
 ·rw [List.concat_eq_append] at h ⊢
  have : b = a := by simpa using h
  rw [List.dropLast_concat, this]
theorem litP_of {l : List UInt8} (h : litP l = true) : ∃ t, l = 91 :: (t ++ [93]) ∧ t ≠ [] ∧ ∀ b ∈ t, litB b = true := by
 cases l with
 | nil => cases h
 | cons c t =>
   unfold litP at h
   simp only [Bool.and_eq_true, beq_iff_eq, Bool.not_eq_true', List.all_eq_true] at h
   obtain ⟨rfl, h1, h2, h3⟩ := h
   refine ⟨t.dropLast, ?_, ?_, h3⟩
   ·rw [last_app h1]
   ·intro e
    rw [e] at h2
    exact absurd h2 (by decide)
theorem litP_mk {t : List UInt8} (h1 : t ≠ []) (h2 : ∀ b ∈ t, litB b = true) : litP (91 :: (t ++ [93])) = true := by
 unfold litP
 simp only [Bool.and_eq_true, beq_iff_eq, Bool.not_eq_true', List.all_eq_true]
 refine ⟨trivial, by simp, ?_, ?_⟩
 ·rw [List.dropLast_concat]
  cases t with
  | nil => exact absurd rfl h1
  | cons _ _ => rfl
 ·rw [List.dropLast_concat]
  exact h2
theorem nameN_some {l : List UInt8} {n : Nat} (h : nameN l = n) (h0 : n ≠ 0) : n ≤ l.length ∧ (regP (l.take n) || litP (l.take n)) = true := by
 cases l with
 | nil => exact absurd h.symm h0
 | cons c t =>
   unfold nameN at h
   simp only at h
   by_cases h91 : c = 91
   ·rw [if_pos h91] at h
    split at h
    ·exact absurd h.symm h0
    rename_i hl0
    split at h
    ·rename_i hl1
     subst h
     have hlt : litN t < t.length := by
      rcases Nat.lt_or_ge (litN t) t.length with hh | hh
      ·exact hh
      ·rw [List.getElem?_eq_none hh] at hl1; cases hl1
     refine ⟨by simp only [List.length_cons]; omega, ?_⟩
     rw [Bool.or_eq_true]
     right
     have e : (c :: t).take (litN t + 2) = 91 :: (t.takeWhile litB ++ [93]) := by
      rw [h91, List.take_succ_cons, List.take_add_one, hl1]
      congr 2
      unfold litN
      exact (List.prefix_iff_eq_take.1 (List.takeWhile_prefix _)).symm
     rw [e]
     refine litP_mk (fun e => hl0 (by unfold litN; rw [e]; rfl)) (fun b hb => ?_)
     have := List.all_takeWhile (p := litB) (l := t)
     rw [List.all_eq_true] at this
     exact this b hb
    ·exact absurd h.symm h0
   ·rw [if_neg h91] at h
    cases hr : regF (c :: t) with
    | none => rw [hr] at h; exact absurd h.symm h0
    | some q =>
      rw [hr] at h
      have hq : q = n := h
      subst hq
      have := regF_some _ _ _ (nR _) hr
      refine ⟨this.1, ?_⟩
      rw [Bool.or_eq_true]
      left
      unfold regP
      rw [this.2, Bool.and_true]
      cases hq : q with
      | zero => exact absurd hq h0
      | succ _ => rfl
theorem nameN_of {p q : List UInt8} (h : (regP p || litP p) = true) (hq : ∀ c, q.head? = some c → c = 58) : nameN (p ++ q) = p.length ∧ p.length ≠ 0 := by
 rw [Bool.or_eq_true] at h
 rcases h with h | h
 ·unfold regP at h
  rw [Bool.and_eq_true] at h
  cases p with
  | nil => exact absurd h.1 (by decide)
  | cons c t =>
    have h91 : c ≠ 91 := by
     rintro rfl
     have := regS_bad (c := 91) (by decide) (by decide) (by decide) (91 :: t) 0 (by simp)
     rw [this] at h
     exact absurd h.2 (by decide)
    refine ⟨?_, by simp⟩
    show (if c = 91 then _ else (regF ((c :: t) ++ q)).getD 0) = _
    rw [if_neg h91, regF_of _ (c :: t) q (nR _) h.2 (fun d hd => by rw [hq d hd]; exact ⟨by decide, by decide⟩)]
    rfl
 ·obtain ⟨t, rfl, h1, h2⟩ := litP_of h
  refine ⟨?_, by simp⟩
  have e : litN (t ++ [93] ++ q) = t.length := by
   unfold litN
   rw [List.append_assoc, takeWhile_app t ([93] ++ q) h2 (fun c hc => by cases hc; decide)]
  show nameN (91 :: (t ++ [93] ++ q)) = _
  unfold nameN
  simp only
  rw [if_pos trivial, e, if_neg (fun (e : t.length = 0) => h1 (List.eq_nil_of_length_eq_zero e)), if_pos (by rw [List.append_assoc, List.getElem?_append_right (nR _), Nat.sub_self]; rfl)]
  simp
theorem numRes_bad {l : List UInt8} {c : UInt8} (h : c ∈ l) (hc : digB 10 c = false) (most : Int) : numRes l 10 most = (0, 3) := by
 unfold numRes
 have h1 : l.isEmpty = false := by cases l with
  | nil => cases h
  | cons _ _ => rfl
 have h2 : l.all (digB 10) = false := by
  rw [List.all_eq_false]
  exact ⟨c, h, by rw [hc]; decide⟩
 rw [h1, h2]
 rfl
theorem reg_mem {p : List UInt8} (h : regP p = true) {c : UInt8} (h1 : hxB c = false) (h2 : plainB c = false) (h3 : c ≠ 37) : c ∉ p := by
 intro hc
 unfold regP at h
 rw [regS_bad h1 h2 h3 p 0 hc, Bool.and_false] at h
 cases h
theorem host_law (l : List UInt8) (I J : Int) (hI : (I = -1 ∧ ∀ k : Nat, l[k]? ≠ some 58) ∨ ∃ i : Nat, I = i ∧ l[i]? = some 58 ∧ ∀ k : Nat, i < k → l[k]? ≠ some 58)
 (hJ : (J = -1 ∧ ∀ k : Nat, l[k]? ≠ some 93) ∨ ∃ j : Nat, J = j ∧ l[j]? = some 93 ∧ ∀ k : Nat, k < j → l[k]? ≠ some 93) : hostP l I J = hostR l := by
 unfold hostP hostR
 cases he : l.isEmpty
 rotate_left
 ·rfl
 simp only [Bool.false_eq_true, if_false]
 by_cases hno : I < J ∨ I < 0
 ·rw [if_pos hno]
  by_cases hn : (regP l || litP l) = true
  ·rw [if_pos hn]
   have := nameN_of (q := []) hn (fun c hc => by cases hc)
   rw [List.append_nil] at this
   rw [if_neg (by rw [this.1]; exact this.2), if_pos this.1]
  ·rw [if_neg hn]
   by_cases h0 : nameN l = 0
   ·rw [if_pos h0]
   rw [if_neg h0]
   obtain ⟨hle, hok⟩ := nameN_some rfl h0
   by_cases hlen : nameN l = l.length
   ·rw [hlen, List.take_length] at hok
    exact absurd hok hn
   rw [if_neg hlen]
   by_cases h58 : l[nameN l]? = some 58
   ·rw [if_neg (by rw [h58]; simp)]
    rcases hI with ⟨_, hI⟩ | ⟨i, rfl, hi, hI⟩
    ·exact absurd h58 (hI _)
    have hni : nameN l ≤ i := by
     rcases Nat.lt_or_ge i (nameN l) with h | h
     ·exact absurd h58 (hI _ h)
     ·exact h
    rcases hJ with ⟨rfl, _⟩ | ⟨j, rfl, hj, hJ⟩
    ·omega
    have hij : i < j := by omega
    have hbad : (93 : UInt8) ∈ l.drop (nameN l + 1) := by
     rw [List.mem_iff_getElem?]
     exact ⟨j - (nameN l + 1), by rw [List.getElem?_drop, show nameN l + 1 + (j - (nameN l + 1)) = j by omega]; exact hj⟩
    rw [numRes_bad hbad (by decide)]
    rfl
   ·rw [if_pos h58]
 ·rw [if_neg hno]
  rcases hI with ⟨rfl, _⟩ | ⟨i, rfl, hi, hI⟩
  ·omega
  have hil : i < l.length := by
   rcases Nat.lt_or_ge i l.length with h | h
   ·exact h
   ·rw [List.getElem?_eq_none h] at hi; cases hi
  rw [Int.toNat_natCast]
  have hsp : l = l.take i ++ l.drop i := (List.take_append_drop i l).symm
  have hhd : (l.drop i).head? = some 58 := by rw [List.head?_drop]; exact hi
  by_cases hn : (regP (l.take i) || litP (l.take i)) = true
  ·rw [if_pos hn]
   have := nameN_of (q := l.drop i) hn (fun c hc => by rw [hhd] at hc; exact (Option.some.inj hc).symm)
   rw [← hsp, List.length_take, Nat.min_eq_left (by omega)] at this
   rw [this.1, if_neg this.2, if_neg (by omega : ¬ i = l.length), if_neg (show ¬ (l[i]? ≠ some 58) by rw [hi]; simp)]
  ·rw [if_neg hn]
   by_cases h0 : nameN l = 0
   ·rw [if_pos h0]
   rw [if_neg h0]
   obtain ⟨hle, hok⟩ := nameN_some rfl h0
   by_cases hlen : nameN l = l.length
   ·exfalso
    rw [hlen, List.take_length, Bool.or_eq_true] at hok
    rcases hok with h | h
    ·exact reg_mem h (c := 58) (by decide) (by decide) (by decide) (List.mem_iff_getElem?.2 ⟨i, hi⟩)
    ·obtain ⟨t, rfl, h1, h2⟩ := litP_of h
     have hlast : (91 :: (t ++ [93]))[t.length + 1]? = some (93 : UInt8) := by simp
     have hne : i ≠ t.length + 1 := by
      rintro rfl
      rw [hlast] at hi
      exact absurd (Option.some.inj hi) (by decide)
     have hit : i < t.length + 1 := by simp at hil; omega
     rcases hJ with ⟨rfl, hJ⟩ | ⟨j, rfl, hj, hJ⟩
     ·exact hJ _ hlast
     have hij : j ≤ i := by omega
     cases j with
     | zero => simp at hj
     | succ j =>
       rw [List.getElem?_cons_succ, List.getElem?_append_left (by omega)] at hj
       have := h2 93 (List.mem_iff_getElem?.2 ⟨j, hj⟩)
       exact absurd this (by decide)
   rw [if_neg hlen]
   by_cases h58 : l[nameN l]? = some 58
   ·rw [if_neg (by rw [h58]; simp)]
    have hni : nameN l ≤ i := by
     rcases Nat.lt_or_ge i (nameN l) with h | h
     ·exact absurd h58 (hI _ h)
     ·exact h
    rcases Nat.lt_or_ge (nameN l) i with hlt | hge
    ·have hbad : (58 : UInt8) ∈ l.drop (nameN l + 1) := by
      rw [List.mem_iff_getElem?]
      exact ⟨i - (nameN l + 1), by rw [List.getElem?_drop, show nameN l + 1 + (i - (nameN l + 1)) = i by omega]; exact hi⟩
     rw [numRes_bad hbad (by decide)]
     rfl
    ·have : nameN l = i := by omega
     rw [this] at hok
     exact absurd hok hn
   ·rw [if_pos h58]
end Go.Proofs.YtaojfiegnebbdaaGreatDoor
/- Texts packed for one claim, 4 of 49: Start Number Trim StartB StartC NumberW. -/
import Derived.Test.YtbglakhojbhfbaaGreatDoorEncodeBackQ3
import Derived.Test.YtbglakhojbhfbaaGreatDoorShelf
import Derived.Deep.QuietTactic
import Derived.BigQuiet
set_option linter.unusedSimpArgs false
set_option linter.unusedVariables false
-- Start
namespace Go.Proofs.YtbglakhojbhfbaaGreatDoor
open Go.RowKit
def isDg (r : Int) : Bool := decide (48 ≤ r ∧ r ≤ 57)
def bt (s : ByteArray) (i : Nat) : Int := if h : i < s.size then ((s[i]'h).toNat : Int) else 0
def headS : ByteArray := ⟨#[72, 84, 84, 80, 47]⟩
/-- Has a text the form of a version? -/
def vform (s : ByteArray) : Bool := decide (s.size = 8) && (Lib.hasPrefix s.data.toList [72, 84, 84, 80, 47] && (isDg (bt s 5) && (decide (bt s 6 = 46) && isDg (bt s 7))))
/-- A version's minor, or the error. -/
def vminor (s : ByteArray) : Int × Int := if vform s = false then (0, 3) else if bt s 5 = 49 then (if bt s 7 = 48 then (0, 0) else (1, 0)) else (0, 9)
theorem bt_range (s : ByteArray) (i : Nat) : 0 ≤ bt s i ∧ bt s i ≤ 255 := by
  unfold bt
  split
  · rename_i h
    have := (s[i]'h).toNat_lt
    omega
  · omega
theorem index_bt (s : ByteArray) (i : Nat) (h : i < s.size) (W : World) : (Instr.index 9 (.string s) (.int .i64 (i : Int))).run Tryz.prog W = .ok (.int .u8 (bt s i)) W := by
  have h1 := run_index_string (P := Tryz.prog) (w := W) 9 s .i64 (i : Int) Tryz.underlying9
  have h2 : 0 ≤ (i : Int) ∧ (i : Int) < s.size := by omega
  rw [dif_pos h2] at h1
  rw [h1]
  unfold bt
  rw [dif_pos h]
  rfl
theorem isDg_false {r : Int} (h : r < 48 ∨ 57 < r) : isDg r = false := by unfold isDg; rw [decide_eq_false_iff_not]; omega
theorem isDg_true {r : Int} (h : 48 ≤ r) (h' : r ≤ 57) : isDg r = true := by unfold isDg; rw [decide_eq_true_eq]; exact ⟨h, h'⟩
theorem formed_no (s : ByteArray) (h : s.size ≠ 8) : vform s = false := by unfold vform; rw [decide_eq_false h]; rfl
theorem formed_of (s : ByteArray) (h : s.size = 8) {p d e f : Bool} (hp : Lib.hasPrefix s.data.toList [72, 84, 84, 80, 47] = p) (hd : isDg (bt s 5) = d) (he : decide (bt s 6 = 46) = e) (hf : isDg (bt s 7) = f) : vform s = (p && (d && (e && f))) := by
  unfold vform; rw [decide_eq_true h, hp, hd, he, hf]; rfl
theorem prefix_at (s : ByteArray) {p : Bool} (hp : Lib.hasPrefix s.data.toList [72, 84, 84, 80, 47] = p) (w : World) : Calls Tryz.prog 101 #[.string s, .string ⟨#[72, 84, 84, 80, 47]⟩] w fun e w' => e = .returned (.bool p) ∧ w = w' := by
  subst hp
  exact (Tryz.strings_HasPrefix s ⟨#[72, 84, 84, 80, 47]⟩ w).mono fun _ _ ⟨a, b⟩ => ⟨a, b.symm⟩
end Go.Proofs.YtbglakhojbhfbaaGreatDoor
-- Number
namespace Go.Proofs.YtbglakhojbhfbaaGreatDoor
open Go.RowKit
/-- Is every octet of a text a digit? -/
def digs (s : ByteArray) : Prop := ∀ k, k < s.size → 48 ≤ bt s k ∧ bt s k ≤ 57
theorem bt_get (s : ByteArray) (k : Nat) (h : k < s.size) : bt s k = ((s[k]'h).toNat : Int) := by unfold bt; rw [dif_pos h]
theorem digV_dig {r : Int} (h : 48 ≤ r) (h' : r ≤ 57) : digV r = r - 48 := by unfold digV; rw [if_pos ⟨h, h'⟩]
theorem numV_step (s : ByteArray) (k : Nat) (h : k < s.size) (hd : digs s) : numV 10 (s.data.toList.take (k + 1)) = numV 10 (s.data.toList.take k) * 10 + (bt s k - 48) := by
  have := hd k h
  rw [take_snoc s k h, numV_snoc, ← bt_get s k h, digV_dig this.1 this.2]
theorem numV_range (s : ByteArray) (hd : digs s) : ∀ k : Nat, k ≤ s.size → 0 ≤ numV 10 (s.data.toList.take k) ∧ numV 10 (s.data.toList.take k) < ((10 ^ k : Nat) : Int)
  | 0, _ => by rw [List.take_zero]; exact ⟨Int.le_refl _, by decide⟩
  | k + 1, h => by
    have h1 := numV_range s hd k (by omega)
    have h2 := hd k (by omega)
    rw [numV_step s k (by omega) hd, Nat.pow_succ]
    omega
theorem numV_small (s : ByteArray) (hd : digs s) (k : Nat) (h : k ≤ s.size) (h17 : k ≤ 17) : 0 ≤ numV 10 (s.data.toList.take k) ∧ numV 10 (s.data.toList.take k) < 100000000000000000 := by
  have h1 := numV_range s hd k h
  have h2 : 10 ^ k ≤ 10 ^ 17 := Nat.pow_le_pow_right (by decide) h17
  have h3 : (10 : Nat) ^ 17 = 100000000000000000 := by decide
  omega
theorem tail_list (s : ByteArray) : (s.extract 1 s.size).data.toList = s.data.toList.drop 1 := by
  rw [Lib.extract_data, List.take_of_length_le (by rw [List.length_drop]; simp)]
theorem tail_size (s : ByteArray) : (s.extract 1 s.size).size = s.size - 1 := by simp
theorem tail_bt (s : ByteArray) (k : Nat) (h : k + 1 < s.size) : bt (s.extract 1 s.size) k = bt s (k + 1) := by
  rw [bt_get _ k (by rw [tail_size]; omega), bt_get s (k + 1) h]
  have h1 : (s.extract 1 s.size).data.toList[k]? = s.data.toList[k + 1]? := by rw [tail_list, List.getElem?_drop, Nat.add_comm]
  rw [List.getElem?_eq_getElem (by rw [tail_list, List.length_drop]; simp; omega), List.getElem?_eq_getElem (by simpa using h)] at h1
  have h2 := Option.some.inj h1
  exact congrArg (fun b : UInt8 => (b.toNat : Int)) h2
theorem tail_digs {s : ByteArray} (hd : digs s) : digs (s.extract 1 s.size) := fun k h => by
  rw [tail_size] at h
  rw [tail_bt s k (by omega)]
  exact hd (k + 1) (by omega)
theorem tail_num {s : ByteArray} (h : 0 < s.size) (h0 : bt s 0 = 48) : numV 10 (s.extract 1 s.size).data.toList = numV 10 s.data.toList := by
  rw [tail_list]
  have hb : ((s[0]'h).toNat : Int) = 48 := by rw [← bt_get s 0 h]; exact h0
  have h1 : s.data.toList = (s[0]'h) :: s.data.toList.drop 1 := by
    have := List.drop_eq_getElem_cons (l := s.data.toList) (i := 0) (by simpa using h)
    rw [List.drop_zero] at this
    exact this
  conv => rhs; rw [h1]
  unfold numV
  rw [List.foldl_cons, hb]
  rfl
theorem take_size (s : ByteArray) : s.data.toList.take s.size = s.data.toList := List.take_of_length_le (by simp)
end Go.Proofs.YtbglakhojbhfbaaGreatDoor
-- Trim
namespace Go.Proofs.YtbglakhojbhfbaaGreatDoor
open Go.RowKit
def isBl (r : Int) : Bool := decide (r = 32 ∨ r = 9)
def blL (b : UInt8) : Bool := isBl b.toNat
def trimL (l : List UInt8) : List UInt8 := ((l.dropWhile blL).reverse.dropWhile blL).reverse
/-- A text without the blanks and tabs at its ends. -/
def trimB (s : ByteArray) : ByteArray := ⟨(trimL s.data.toList).toArray⟩
theorem drop_all : ∀ (p l : List UInt8), (∀ b ∈ p, blL b = true) → (p ++ l).dropWhile blL = l.dropWhile blL
  | [], _, _ => rfl
  | b :: p, l, h => by
    rw [List.cons_append, List.dropWhile_cons, if_pos (h b (by simp)), drop_all p l (fun x hx => h x (by simp [hx]))]
theorem drop_nil {p : List UInt8} (h : ∀ b ∈ p, blL b = true) : p.dropWhile blL = [] := by
  have := drop_all p [] h
  rw [List.append_nil] at this
  exact this
theorem trim_front {p : List UInt8} (l : List UInt8) (h : ∀ b ∈ p, blL b = true) : trimL (p ++ l) = trimL l := by
  unfold trimL; rw [drop_all p l h]
theorem trim_back {q : List UInt8} (l : List UInt8) (h : ∀ b ∈ q, blL b = true) : trimL (l ++ q) = trimL l := by
  unfold trimL
  rw [List.dropWhile_append]
  by_cases hl : (l.dropWhile blL).isEmpty = true
  · rw [if_pos hl, drop_nil h]
    rw [List.isEmpty_iff] at hl
    rw [hl]
  · rw [if_neg hl, List.reverse_append, drop_all q.reverse _ (fun b hb => h b (by simpa using hb))]
theorem trim_id {l : List UInt8} (h1 : ∀ b, l.head? = some b → blL b = false) (h2 : ∀ b, l.getLast? = some b → blL b = false) : trimL l = l := by
  unfold trimL
  have e1 : l.dropWhile blL = l := by
    cases l with
    | nil => rfl
    | cons b t => rw [List.dropWhile_cons, if_neg (by rw [h1 b rfl]; decide)]
  rw [e1]
  have e2 : l.reverse.dropWhile blL = l.reverse := by
    cases hr : l.reverse with
    | nil => rfl
    | cons b t =>
      have : l.getLast? = some b := by rw [← List.head?_reverse, hr]; rfl
      rw [List.dropWhile_cons, if_neg (by rw [h2 b this]; decide)]
  rw [e2, List.reverse_reverse]
theorem isBl_true {r : Int} (h : r = 32 ∨ r = 9) : isBl r = true := decide_eq_true h
theorem isBl_false {r : Int} (h1 : r ≠ 32) (h2 : r ≠ 9) : isBl r = false := decide_eq_false (by omega)
theorem isBl_or {r : Int} (h : isBl r = true) : r = 32 ∨ r = 9 := of_decide_eq_true h
theorem isBl_ne {r : Int} (h : isBl r = false) : r ≠ 32 ∧ r ≠ 9 := by
  have := of_decide_eq_false h
  omega
theorem blL_bt (s : ByteArray) (k : Nat) (h : k < s.size) : blL (s[k]'h) = isBl (bt s k) := by unfold blL; rw [bt_get s k h]
set_option maxRecDepth 100000 in
theorem blank_any (r : Int) (w : World) : Calls Tryz.prog 55 #[.int .u8 r] w fun e w' => e = .returned (.bool (isBl r)) ∧ w = w' := by
  by_cases h1 : r = 32
  · have HV := Lib.hid (isBl_true (.inl h1))
    subst h1
    go_enter Tryz.func55, Tryz.ntmps55
    go_wp2_with fail
    go_ret
    rw [HV.out]
    exact ⟨rfl, rfl⟩
  · have e1 : (r == 32) = false := by rw [beq_eq_false_iff_ne]; exact h1
    by_cases h2 : r = 9
    · have HV := Lib.hid (isBl_true (.inr h2))
      subst h2
      go_enter Tryz.func55, Tryz.ntmps55
      go_wp2_with fail
      go_ret
      rw [HV.out]
      exact ⟨rfl, rfl⟩
    · have e2 : (r == 9) = false := by rw [beq_eq_false_iff_ne]; exact h2
      have HV := Lib.hid (isBl_false h1 h2)
      go_enter Tryz.func55, Tryz.ntmps55
      go_wp2_with fail
      go_ret
      rw [HV.out]
      exact ⟨rfl, rfl⟩
theorem blank_at {r : Int} {p : Bool} (h : isBl r = p) (w : World) : Calls Tryz.prog 55 #[.int .u8 r] w fun e w' => e = .returned (.bool p) ∧ w = w' := by
  subst h; exact blank_any r w
theorem ext_list {a b : ByteArray} (h : a.data.toList = b.data.toList) : a = b := by
  apply ByteArray.ext
  exact Array.toList_inj.1 h
theorem mem_take_bt {s : ByteArray} {k : Nat} (hk : k ≤ s.size) (h : ∀ j, j < k → isBl (bt s j) = true) : ∀ b ∈ s.data.toList.take k, blL b = true := by
  intro b hb
  obtain ⟨j, hj, e⟩ := List.getElem_of_mem hb
  rw [List.length_take] at hj
  have hj' : j < s.size := by omega
  rw [List.getElem_take] at e
  rw [← e]
  show blL (s[j]'hj') = true
  rw [blL_bt]; exact h j (by omega)
theorem mem_drop_bt {s : ByteArray} {k : Nat} (h : ∀ j, k ≤ j → j < s.size → isBl (bt s j) = true) : ∀ b ∈ s.data.toList.drop k, blL b = true := by
  intro b hb
  obtain ⟨j, hj, e⟩ := List.getElem_of_mem hb
  rw [List.length_drop] at hj
  have hj' : k + j < s.size := by have : s.data.toList.length = s.size := by simp
                                  omega
  rw [List.getElem_drop] at e
  rw [← e]
  show blL (s[k + j]'hj') = true
  rw [blL_bt]; exact h (k + j) (by omega) hj'
theorem trim_none {s : ByteArray} (h : ∀ j, j < s.size → isBl (bt s j) = true) : trimB s = ⟨#[]⟩ := by
  have := mem_take_bt (Nat.le_refl _) h
  rw [List.take_of_length_le (by simp)] at this
  unfold trimB trimL
  rw [drop_nil this]
  rfl
theorem list_cut (s : ByteArray) {k j : Nat} (hkj : k ≤ j) : s.data.toList = s.data.toList.take k ++ ((s.extract k j).data.toList ++ s.data.toList.drop j) := by
  rw [Lib.extract_data]
  have h1 : s.data.toList.drop j = (s.data.toList.drop k).drop (j - k) := by rw [List.drop_drop]; congr 1; omega
  rw [h1, List.take_append_drop, List.take_append_drop]
theorem trim_cut {s : ByteArray} {k j : Nat} (hkj : k < j) (hj : j ≤ s.size) (h1 : ∀ i, i < k → isBl (bt s i) = true) (h2 : ∀ i, j ≤ i → i < s.size → isBl (bt s i) = true) (h3 : isBl (bt s k) = false) (h4 : isBl (bt s (j - 1)) = false) : trimB s = s.extract k j := by
  apply ext_list
  show trimL s.data.toList = _
  rw [list_cut s (Nat.le_of_lt hkj), trim_front _ (mem_take_bt (by omega) h1), trim_back _ (mem_drop_bt h2)]
  refine trim_id (fun b hb => ?_) (fun b hb => ?_)
  · rw [List.head?_eq_getElem?, Lib.extract_data, List.getElem?_take_of_lt (by omega), List.getElem?_drop, Nat.add_zero, List.getElem?_eq_getElem (by simp; omega)] at hb
    have := Option.some.inj hb
    rw [← this]
    show blL (s[k]'(by omega)) = false
    rw [blL_bt]; exact h3
  · rw [List.getLast?_eq_getElem?, Lib.extract_data, List.length_take, List.length_drop] at hb
    have hl : s.data.toList.length = s.size := by simp
    rw [hl, show min (j - k) (s.size - k) - 1 = j - k - 1 by omega, List.getElem?_take_of_lt (by omega), List.getElem?_drop, show k + (j - k - 1) = j - 1 by omega, List.getElem?_eq_getElem (by simp; omega)] at hb
    have := Option.some.inj hb
    rw [← this]
    show blL (s[j - 1]'(by omega)) = false
    rw [blL_bt]; exact h4
set_option maxRecDepth 100000 in
set_option maxHeartbeats 4000000 in
theorem trim_any (s : ByteArray) (hs : s.size ≤ 9223372036854775807) (w : World) : Calls Tryz.prog 42 #[.string s] w fun e w' => e = .returned (.string (trimB s)) ∧ w = w' := by
  have hsi : (s.size : Int) ≤ 9223372036854775807 := by omega
  go_enter Tryz.func42, Tryz.ntmps42
  go_wp2_with fail
  go_loop [3] (fun i => ∃ k : Nat, k ≤ s.size ∧ i = .int .i64 k ∧ ∀ j, j < k → isBl (bt s j) = true) (fun i => s.size - (intOf i).toNat)
  case atStart => exact ⟨0, by omega, rfl, fun j hj => by omega⟩
  case round =>
    obtain ⟨k, hk, rfl, hall⟩ := hrel
    have HA := Lib.hid hall
    clear hall
    by_cases hlt : k < s.size
    · have hki : (k : Int) < s.size := by omega
      obtain ⟨b, hb⟩ : ∃ b, b = bt s k := ⟨_, rfl⟩
      have hix : ∀ W : World, (Instr.index 9 (.string s) (.int .i64 k)).run Tryz.prog W = .ok (.int .u8 b) W := by rw [hb]; exact index_bt s k hlt
      cases hbl : isBl b
      · have HB := Lib.hid hbl
        have HBB := Lib.hid hb
        clear hb hbl
        go_wp2_with (go_at_call 55; refine (blank_at HB.out _).mono ?_; rintro e' w' ⟨rfl, rfl⟩)
        go_loop [4] (fun i => ∃ j : Nat, k + 1 ≤ j ∧ j ≤ s.size ∧ i = .int .i64 j ∧ ∀ x, j ≤ x → x < s.size → isBl (bt s x) = true) (fun i => (intOf i).toNat)
        case atStart => exact ⟨s.size, by omega, Nat.le_refl _, rfl, fun x h1 h2 => by omega⟩
        case round =>
          obtain ⟨j, hj1, hj2, rfl, hall⟩ := hrel
          have HC := Lib.hid hall
          clear hall hix
          obtain ⟨i, rfl⟩ : ∃ i, j = i + 1 := ⟨j - 1, by omega⟩
          have hji : (k : Int) < (i : Int) + 1 := by omega
          have hjk : (i : Int) + 1 ≤ 9223372036854775807 := by omega
          have hjs : (i : Int) < s.size := by omega
          obtain ⟨c, hc⟩ : ∃ c, c = bt s i := ⟨_, rfl⟩
          have hix : ∀ W : World, (Instr.index 9 (.string s) (.int .i64 i)).run Tryz.prog W = .ok (.int .u8 c) W := by rw [hc]; exact index_bt s i (by omega)
          cases hcl : isBl c
          · have HD := Lib.hid hcl
            have HR : Hid (trimB s = s.extract k (i + 1)) := trim_cut (by omega) hj2 HA.out HC.out (HBB.out ▸ HB.out) (by rw [Nat.add_sub_cancel]; exact hc ▸ hcl)
            have hsl := fun (W : World) => run_slice_string (w := W) 9 s .i64 .i64 (k : Int) ((i : Int) + 1) Tryz.underlying9 (by omega) (by omega) (by omega)
            have e1 : ((i : Int) + 1).toNat = i + 1 := rfl
            have e2 : (k : Int).toNat = k := rfl
            rw [e1, e2] at hsl
            clear hc hcl e1 e2
            go_wp2_with (go_at_call 55; refine (blank_at HD.out _).mono ?_; rintro e' w' ⟨rfl, rfl⟩)
            go_ret
            rw [HR.out]
            exact ⟨rfl, rfl⟩
          · have HD := Lib.hid hcl
            have hne : Hid (k + 1 ≤ i) := by
              show k + 1 ≤ i
              rcases (by omega : k + 1 ≤ i ∨ i = k) with h | h
              · exact h
              · rw [hc, h] at hcl
                have := HB.out
                rw [HBB.out, hcl] at this
                cases this
            have HE : Hid (∀ x, i ≤ x → x < s.size → isBl (bt s x) = true) := by
              show ∀ x, i ≤ x → x < s.size → isBl (bt s x) = true
              intro x h1 h2
              rcases (by omega : x = i ∨ i + 1 ≤ x) with rfl | h
              · rw [← hc]; exact hcl
              · exact HC.out x h h2
            clear hc hcl
            go_wp2_with (go_at_call 55; refine (blank_at HD.out _).mono ?_; rintro e' w' ⟨rfl, rfl⟩)
            go_round
            case rel => exact ⟨i, hne.out, by omega, by go_num, HE.out⟩
            case measure => simp [intOf]
      · have HB := Lib.hid hbl
        have HE : Hid (∀ j, j < k + 1 → isBl (bt s j) = true) := by
          show ∀ j, j < k + 1 → isBl (bt s j) = true
          intro x h1
          rcases (by omega : x = k ∨ x < k) with rfl | h
          · rw [← hb]; exact hbl
          · exact HA.out x h
        clear hb hbl
        go_wp2_with (go_at_call 55; refine (blank_at HB.out _).mono ?_; rintro e' w' ⟨rfl, rfl⟩)
        go_round
        case rel => exact ⟨k + 1, by omega, by go_num, HE.out⟩
        case measure => simp [intOf]; omega
    · obtain rfl : k = s.size := by omega
      have HR : Hid (trimB s = ByteArray.empty) := trim_none HA.out
      have hsl := fun (W : World) => run_slice_string (w := W) 9 s .i64 .i64 (s.size : Int) (s.size : Int) Tryz.underlying9 (by omega) (by omega) (by omega)
      have e2 : (s.size : Int).toNat = s.size := rfl
      rw [e2] at hsl
      have hd : decide ((s.size : Int) < s.size) = false := by rw [decide_eq_false_iff_not]; omega
      clear e2 hlt hk
      go_wp2_with fail
      refine wp_loop_rounds 1 ?_
      rw [rounds_succ]
      go_wp2_with fail
      go_ret
      rw [HR.out]
      exact ⟨rfl, rfl⟩
theorem list_first {s : ByteArray} (h : 0 < s.size) : s.data.toList = [s[0]'h] ++ (s.extract 1 s.size).data.toList := by
  have := list_cut s (k := 1) (j := s.size) (by omega)
  rw [List.drop_of_length_le (l := s.data.toList) (i := s.size) (by simp), List.append_nil] at this
  rw [this]
  congr 1
  rw [List.take_succ_eq_append_getElem (by simp; omega)]
  rfl
theorem list_last {s : ByteArray} (h : 0 < s.size) : s.data.toList = (s.extract 0 (s.size - 1)).data.toList ++ [s[s.size - 1]'(by omega)] := by
  have := list_cut s (k := 0) (j := s.size - 1) (by omega)
  rw [List.take_zero, List.nil_append] at this
  rw [this]
  congr 1
  rw [List.drop_eq_getElem_cons (by simp; omega), List.drop_of_length_le (by simp; omega)]
  rfl
theorem trim_step1 {s : ByteArray} (h : 0 < s.size) (hb : isBl (bt s 0) = true) : trimB (s.extract 1 s.size) = trimB s := by
  apply ext_list
  show trimL _ = trimL _
  rw [list_first h, trim_front]
  intro b hb'
  rw [List.mem_singleton] at hb'
  rw [hb', blL_bt]; exact hb
theorem trim_step2 {s : ByteArray} (h : 0 < s.size) (hb : isBl (bt s (s.size - 1)) = true) : trimB (s.extract 0 (s.size - 1)) = trimB s := by
  apply ext_list
  show trimL _ = trimL _
  rw [list_last h, trim_back]
  intro b hb'
  rw [List.mem_singleton] at hb'
  rw [hb', blL_bt]; exact hb
theorem trim_done {s : ByteArray} (h : 0 < s.size) (h1 : isBl (bt s 0) = false) (h2 : isBl (bt s (s.size - 1)) = false) : trimB s = s := by
  rw [trim_cut (k := 0) (j := s.size) h (Nat.le_refl _) (fun i hi => by omega) (fun i hi hi' => by omega) h1 h2]
  apply ext_list
  rw [Lib.extract_data, List.drop_zero, List.take_of_length_le (by simp)]
theorem trim_empty {s : ByteArray} (h : s.size = 0) : trimB s = s := by
  rw [trim_none (fun j hj => by omega)]
  apply ext_list
  have : s.data.toList = [] := List.eq_nil_of_length_eq_zero (by simpa using h)
  rw [this]
theorem cut_last_bt {s : ByteArray} (h : 1 < s.size) : bt (s.extract 0 (s.size - 1)) 0 = bt s 0 := by
  have hz : 0 < (s.extract 0 (s.size - 1)).size := by simp; omega
  have h1 : (s.extract 0 (s.size - 1)).data.toList[0]? = s.data.toList[0]? := by rw [Lib.extract_data, List.getElem?_take_of_lt (by omega), List.drop_zero]
  rw [bt_get _ 0 hz, bt_get s 0 (by omega)]
  rw [List.getElem?_eq_getElem (by simpa using hz), List.getElem?_eq_getElem (by simp; omega)] at h1
  exact congrArg (fun b : UInt8 => (b.toNat : Int)) (Option.some.inj h1)
end Go.Proofs.YtbglakhojbhfbaaGreatDoor
-- StartB
namespace Go.Proofs.YtbglakhojbhfbaaGreatDoor
open Go.RowKit
theorem vform_size {s : ByteArray} (h : vform s = true) : s.size = 8 := by
  unfold vform at h
  rw [Bool.and_eq_true, decide_eq_true_eq] at h
  exact h.1
theorem vform_seven {s : ByteArray} (h : vform s = true) : 48 ≤ bt s 7 ∧ bt s 7 ≤ 57 := by
  unfold vform at h
  rw [Bool.and_eq_true, Bool.and_eq_true, Bool.and_eq_true, Bool.and_eq_true] at h
  have := h.2.2.2.2
  unfold isDg at this
  rw [decide_eq_true_eq] at this
  exact this
theorem vminor_form {s : ByteArray} (h : vform s = false) : vminor s = (0, 3) := by unfold vminor; rw [if_pos h]
theorem vminor_version {s : ByteArray} (h : vform s = true) (h5 : bt s 5 ≠ 49) : vminor s = (0, 9) := by unfold vminor; rw [if_neg (by rw [h]; decide), if_neg h5]
theorem vminor_zero {s : ByteArray} (h : vform s = true) (h5 : bt s 5 = 49) (h7 : bt s 7 = 48) : vminor s = (0, 0) := by unfold vminor; rw [if_neg (by rw [h]; decide), if_pos h5, if_pos h7]
theorem vminor_one {s : ByteArray} (h : vform s = true) (h5 : bt s 5 = 49) (h7 : bt s 7 ≠ 48) : vminor s = (1, 0) := by unfold vminor; rw [if_neg (by rw [h]; decide), if_pos h5, if_neg h7]
end Go.Proofs.YtbglakhojbhfbaaGreatDoor
-- StartC
namespace Go.Proofs.YtbglakhojbhfbaaGreatDoor
open Go.RowKit
theorem take_prefix (l p : List UInt8) : (l.take p.length == p) = Lib.hasPrefix l p := by
  unfold Lib.hasPrefix
  rw [Bool.eq_iff_iff, beq_iff_eq, List.isPrefixOf_iff_prefix, List.prefix_iff_eq_take]
  exact ⟨Eq.symm, Eq.symm⟩
theorem head_take (s : ByteArray) : ((s.extract 0 5).toList == [72, 84, 84, 80, 47]) = Lib.hasPrefix s.data.toList [72, 84, 84, 80, 47] := by
  rw [Lib.extract_toList, ← take_prefix]; rfl
theorem min_zero {b : Int} (h : b = 48) : min (b - 48) 1 = 0 := by omega
end Go.Proofs.YtbglakhojbhfbaaGreatDoor
-- NumberW
namespace Go.Proofs.YtbglakhojbhfbaaGreatDoor
open Go.RowKit
def strSize : Value → Nat
  | .string t => t.size
  | _ => 0
theorem index_at (s : ByteArray) (k : Nat) (h : k < s.size) {b : Int} (hb : b = bt s k) (W : World) : (Instr.index 9 (.string s) (.int .i64 (k : Int))).run Tryz.prog W = .ok (.int .u8 b) W := by rw [hb]; exact index_bt s k h W
end Go.Proofs.YtbglakhojbhfbaaGreatDoor

/- Texts packed for one claim, 5 of 34: Start Number Trim PrP LsP LsW HostP NumberW NumR. -/
import Derived.Test.YtcpjkemjpgggcaaGreatDoorFraQ4
import Derived.Test.YtcpjkemjpgggcaaGreatDoorShelf
import Derived.Deep.QuietTactic
import Derived.BigQuiet
import Derived.Test.YtcpjkemjpgggcaaGreatDoorFraQ2
set_option linter.unusedSimpArgs false
set_option linter.unusedVariables false
-- Start
namespace Go.Proofs.YtcpjkemjpgggcaaGreatDoor
open Go.RowKit
def isDg (r : Int) : Bool := decide (48 ≤ r ∧ r ≤ 57)
def bt (s : ByteArray) (i : Nat) : Int := if h : i < s.size then ((s[i]'h).toNat : Int) else 0
def headS : ByteArray := ⟨#[72, 84, 84, 80, 47]⟩
/-- Has a text the form of a version? -/
def vform (s : ByteArray) : Bool := decide (s.size = 8) && (Lib.hasPrefix s.data.toList [72, 84, 84, 80, 47] && (isDg (bt s 5) && (decide (bt s 6 = 46) && isDg (bt s 7))))
/-- A version's minor, or the error. -/
def vminor (s : ByteArray) : Int × Int := if vform s = false then (0, 3) else if bt s 5 = 49 then (if bt s 7 = 48 then (0, 0) else (1, 0)) else (0, 9)
theorem bt_range (s : ByteArray) (i : Nat) : 0 ≤ bt s i ∧ bt s i ≤ 255 := by
  unfold bt
  split
  · rename_i h
    have := (s[i]'h).toNat_lt
    omega
  · omega
theorem index_bt (s : ByteArray) (i : Nat) (h : i < s.size) (W : World) : (Instr.index 9 (.string s) (.int .i64 (i : Int))).run Tryz.prog W = .ok (.int .u8 (bt s i)) W := by
  have h1 := run_index_string (P := Tryz.prog) (w := W) 9 s .i64 (i : Int) Tryz.underlying9
  have h2 : 0 ≤ (i : Int) ∧ (i : Int) < s.size := by omega
  rw [dif_pos h2] at h1
  rw [h1]
  unfold bt
  rw [dif_pos h]
  rfl
theorem isDg_false {r : Int} (h : r < 48 ∨ 57 < r) : isDg r = false := by unfold isDg; rw [decide_eq_false_iff_not]; omega
theorem isDg_true {r : Int} (h : 48 ≤ r) (h' : r ≤ 57) : isDg r = true := by unfold isDg; rw [decide_eq_true_eq]; exact ⟨h, h'⟩
theorem formed_no (s : ByteArray) (h : s.size ≠ 8) : vform s = false := by unfold vform; rw [decide_eq_false h]; rfl
theorem formed_of (s : ByteArray) (h : s.size = 8) {p d e f : Bool} (hp : Lib.hasPrefix s.data.toList [72, 84, 84, 80, 47] = p) (hd : isDg (bt s 5) = d) (he : decide (bt s 6 = 46) = e) (hf : isDg (bt s 7) = f) : vform s = (p && (d && (e && f))) := by
  unfold vform; rw [decide_eq_true h, hp, hd, he, hf]; rfl
theorem prefix_at (s : ByteArray) {p : Bool} (hp : Lib.hasPrefix s.data.toList [72, 84, 84, 80, 47] = p) (w : World) : Calls Tryz.prog 180 #[.string s, .string ⟨#[72, 84, 84, 80, 47]⟩] w fun e w' => e = .returned (.bool p) ∧ w = w' := by
  subst hp
  exact (Tryz.strings_HasPrefix s ⟨#[72, 84, 84, 80, 47]⟩ w).mono fun _ _ ⟨a, b⟩ => ⟨a, b.symm⟩
end Go.Proofs.YtcpjkemjpgggcaaGreatDoor
-- Number
namespace Go.Proofs.YtcpjkemjpgggcaaGreatDoor
open Go.RowKit
set_option maxRecDepth 100000 in
theorem rvalue02_dig (r : Int) (h0 : 48 ≤ r) (h1 : r ≤ 57) (w : World) : Calls Tryz.prog 126 #[.int .u8 r] w fun e w' => e = .returned (.int .i64 (r - 48)) ∧ w = w' := by
  go_enter Tryz.func126, Tryz.ntmps126
  go_wp2_with fail
  go_ret
  exact ⟨rfl, rfl⟩
/-- Is every octet of a text a digit? -/
def digs (s : ByteArray) : Prop := ∀ k, k < s.size → 48 ≤ bt s k ∧ bt s k ≤ 57
theorem bt_get (s : ByteArray) (k : Nat) (h : k < s.size) : bt s k = ((s[k]'h).toNat : Int) := by unfold bt; rw [dif_pos h]
theorem digV_dig {r : Int} (h : 48 ≤ r) (h' : r ≤ 57) : digV r = r - 48 := by unfold digV; rw [if_pos ⟨h, h'⟩]
theorem numV_step (s : ByteArray) (k : Nat) (h : k < s.size) (hd : digs s) : numV 10 (s.data.toList.take (k + 1)) = numV 10 (s.data.toList.take k) * 10 + (bt s k - 48) := by
  have := hd k h
  rw [take_snoc s k h, numV_snoc, ← bt_get s k h, digV_dig this.1 this.2]
theorem numV_range (s : ByteArray) (hd : digs s) : ∀ k : Nat, k ≤ s.size → 0 ≤ numV 10 (s.data.toList.take k) ∧ numV 10 (s.data.toList.take k) < ((10 ^ k : Nat) : Int)
  | 0, _ => by rw [List.take_zero]; exact ⟨Int.le_refl _, by decide⟩
  | k + 1, h => by
    have h1 := numV_range s hd k (by omega)
    have h2 := hd k (by omega)
    rw [numV_step s k (by omega) hd, Nat.pow_succ]
    omega
theorem numV_small (s : ByteArray) (hd : digs s) (k : Nat) (h : k ≤ s.size) (h17 : k ≤ 17) : 0 ≤ numV 10 (s.data.toList.take k) ∧ numV 10 (s.data.toList.take k) < 100000000000000000 := by
  have h1 := numV_range s hd k h
  have h2 : 10 ^ k ≤ 10 ^ 17 := Nat.pow_le_pow_right (by decide) h17
  have h3 : (10 : Nat) ^ 17 = 100000000000000000 := by decide
  omega
theorem tail_list (s : ByteArray) : (s.extract 1 s.size).data.toList = s.data.toList.drop 1 := by
  rw [Lib.extract_data, List.take_of_length_le (by rw [List.length_drop]; simp)]
theorem tail_size (s : ByteArray) : (s.extract 1 s.size).size = s.size - 1 := by simp
theorem tail_bt (s : ByteArray) (k : Nat) (h : k + 1 < s.size) : bt (s.extract 1 s.size) k = bt s (k + 1) := by
  rw [bt_get _ k (by rw [tail_size]; omega), bt_get s (k + 1) h]
  have h1 : (s.extract 1 s.size).data.toList[k]? = s.data.toList[k + 1]? := by rw [tail_list, List.getElem?_drop, Nat.add_comm]
  rw [List.getElem?_eq_getElem (by rw [tail_list, List.length_drop]; simp; omega), List.getElem?_eq_getElem (by simpa using h)] at h1
  have h2 := Option.some.inj h1
  exact congrArg (fun b : UInt8 => (b.toNat : Int)) h2
theorem tail_digs {s : ByteArray} (hd : digs s) : digs (s.extract 1 s.size) := fun k h => by
  rw [tail_size] at h
  rw [tail_bt s k (by omega)]
  exact hd (k + 1) (by omega)
theorem tail_num {s : ByteArray} (h : 0 < s.size) (h0 : bt s 0 = 48) : numV 10 (s.extract 1 s.size).data.toList = numV 10 s.data.toList := by
  rw [tail_list]
  have hb : ((s[0]'h).toNat : Int) = 48 := by rw [← bt_get s 0 h]; exact h0
  have h1 : s.data.toList = (s[0]'h) :: s.data.toList.drop 1 := by
    have := List.drop_eq_getElem_cons (l := s.data.toList) (i := 0) (by simpa using h)
    rw [List.drop_zero] at this
    exact this
  conv => rhs; rw [h1]
  unfold numV
  rw [List.foldl_cons, hb]
  rfl
theorem take_size (s : ByteArray) : s.data.toList.take s.size = s.data.toList := List.take_of_length_le (by simp)
end Go.Proofs.YtcpjkemjpgggcaaGreatDoor
-- Trim
namespace Go.Proofs.YtcpjkemjpgggcaaGreatDoor
open Go.RowKit
def isBl (r : Int) : Bool := decide (r = 32 ∨ r = 9)
def blL (b : UInt8) : Bool := isBl b.toNat
def trimL (l : List UInt8) : List UInt8 := ((l.dropWhile blL).reverse.dropWhile blL).reverse
/-- A text without the blanks and tabs at its ends. -/
def trimB (s : ByteArray) : ByteArray := ⟨(trimL s.data.toList).toArray⟩
theorem drop_all : ∀ (p l : List UInt8), (∀ b ∈ p, blL b = true) → (p ++ l).dropWhile blL = l.dropWhile blL
  | [], _, _ => rfl
  | b :: p, l, h => by
    rw [List.cons_append, List.dropWhile_cons, if_pos (h b (by simp)), drop_all p l (fun x hx => h x (by simp [hx]))]
theorem drop_nil {p : List UInt8} (h : ∀ b ∈ p, blL b = true) : p.dropWhile blL = [] := by
  have := drop_all p [] h
  rw [List.append_nil] at this
  exact this
theorem trim_front {p : List UInt8} (l : List UInt8) (h : ∀ b ∈ p, blL b = true) : trimL (p ++ l) = trimL l := by
  unfold trimL; rw [drop_all p l h]
theorem trim_back {q : List UInt8} (l : List UInt8) (h : ∀ b ∈ q, blL b = true) : trimL (l ++ q) = trimL l := by
  unfold trimL
  rw [List.dropWhile_append]
  by_cases hl : (l.dropWhile blL).isEmpty = true
  · rw [if_pos hl, drop_nil h]
    rw [List.isEmpty_iff] at hl
    rw [hl]
  · rw [if_neg hl, List.reverse_append, drop_all q.reverse _ (fun b hb => h b (by simpa using hb))]
theorem trim_id {l : List UInt8} (h1 : ∀ b, l.head? = some b → blL b = false) (h2 : ∀ b, l.getLast? = some b → blL b = false) : trimL l = l := by
  unfold trimL
  have e1 : l.dropWhile blL = l := by
    cases l with
    | nil => rfl
    | cons b t => rw [List.dropWhile_cons, if_neg (by rw [h1 b rfl]; decide)]
  rw [e1]
  have e2 : l.reverse.dropWhile blL = l.reverse := by
    cases hr : l.reverse with
    | nil => rfl
    | cons b t =>
      have : l.getLast? = some b := by rw [← List.head?_reverse, hr]; rfl
      rw [List.dropWhile_cons, if_neg (by rw [h2 b this]; decide)]
  rw [e2, List.reverse_reverse]
theorem isBl_true {r : Int} (h : r = 32 ∨ r = 9) : isBl r = true := decide_eq_true h
theorem isBl_false {r : Int} (h1 : r ≠ 32) (h2 : r ≠ 9) : isBl r = false := decide_eq_false (by omega)
theorem isBl_or {r : Int} (h : isBl r = true) : r = 32 ∨ r = 9 := of_decide_eq_true h
theorem isBl_ne {r : Int} (h : isBl r = false) : r ≠ 32 ∧ r ≠ 9 := by
  have := of_decide_eq_false h
  omega
theorem blL_bt (s : ByteArray) (k : Nat) (h : k < s.size) : blL (s[k]'h) = isBl (bt s k) := by unfold blL; rw [bt_get s k h]
set_option maxRecDepth 100000 in
theorem blank_any (r : Int) (w : World) : Calls Tryz.prog 134 #[.int .u8 r] w fun e w' => e = .returned (.bool (isBl r)) ∧ w = w' := by
  by_cases h1 : r = 32
  · have HV := Lib.hid (isBl_true (.inl h1))
    subst h1
    go_enter Tryz.func134, Tryz.ntmps134
    go_wp2_with fail
    go_ret
    rw [HV.out]
    exact ⟨rfl, rfl⟩
  · have e1 : (r == 32) = false := by rw [beq_eq_false_iff_ne]; exact h1
    by_cases h2 : r = 9
    · have HV := Lib.hid (isBl_true (.inr h2))
      subst h2
      go_enter Tryz.func134, Tryz.ntmps134
      go_wp2_with fail
      go_ret
      rw [HV.out]
      exact ⟨rfl, rfl⟩
    · have e2 : (r == 9) = false := by rw [beq_eq_false_iff_ne]; exact h2
      have HV := Lib.hid (isBl_false h1 h2)
      go_enter Tryz.func134, Tryz.ntmps134
      go_wp2_with fail
      go_ret
      rw [HV.out]
      exact ⟨rfl, rfl⟩
theorem blank_at {r : Int} {p : Bool} (h : isBl r = p) (w : World) : Calls Tryz.prog 134 #[.int .u8 r] w fun e w' => e = .returned (.bool p) ∧ w = w' := by
  subst h; exact blank_any r w
theorem ext_list {a b : ByteArray} (h : a.data.toList = b.data.toList) : a = b := by
  apply ByteArray.ext
  exact Array.toList_inj.1 h
theorem mem_take_bt {s : ByteArray} {k : Nat} (hk : k ≤ s.size) (h : ∀ j, j < k → isBl (bt s j) = true) : ∀ b ∈ s.data.toList.take k, blL b = true := by
  intro b hb
  obtain ⟨j, hj, e⟩ := List.getElem_of_mem hb
  rw [List.length_take] at hj
  have hj' : j < s.size := by omega
  rw [List.getElem_take] at e
  rw [← e]
  show blL (s[j]'hj') = true
  rw [blL_bt]; exact h j (by omega)
theorem mem_drop_bt {s : ByteArray} {k : Nat} (h : ∀ j, k ≤ j → j < s.size → isBl (bt s j) = true) : ∀ b ∈ s.data.toList.drop k, blL b = true := by
  intro b hb
  obtain ⟨j, hj, e⟩ := List.getElem_of_mem hb
  rw [List.length_drop] at hj
  have hj' : k + j < s.size := by have : s.data.toList.length = s.size := by simp
                                  omega
  rw [List.getElem_drop] at e
  rw [← e]
  show blL (s[k + j]'hj') = true
  rw [blL_bt]; exact h (k + j) (by omega) hj'
theorem trim_none {s : ByteArray} (h : ∀ j, j < s.size → isBl (bt s j) = true) : trimB s = ⟨#[]⟩ := by
  have := mem_take_bt (Nat.le_refl _) h
  rw [List.take_of_length_le (by simp)] at this
  unfold trimB trimL
  rw [drop_nil this]
  rfl
theorem list_cut (s : ByteArray) {k j : Nat} (hkj : k ≤ j) : s.data.toList = s.data.toList.take k ++ ((s.extract k j).data.toList ++ s.data.toList.drop j) := by
  rw [Lib.extract_data]
  have h1 : s.data.toList.drop j = (s.data.toList.drop k).drop (j - k) := by rw [List.drop_drop]; congr 1; omega
  rw [h1, List.take_append_drop, List.take_append_drop]
theorem trim_cut {s : ByteArray} {k j : Nat} (hkj : k < j) (hj : j ≤ s.size) (h1 : ∀ i, i < k → isBl (bt s i) = true) (h2 : ∀ i, j ≤ i → i < s.size → isBl (bt s i) = true) (h3 : isBl (bt s k) = false) (h4 : isBl (bt s (j - 1)) = false) : trimB s = s.extract k j := by
  apply ext_list
  show trimL s.data.toList = _
  rw [list_cut s (Nat.le_of_lt hkj), trim_front _ (mem_take_bt (by omega) h1), trim_back _ (mem_drop_bt h2)]
  refine trim_id (fun b hb => ?_) (fun b hb => ?_)
  · rw [List.head?_eq_getElem?, Lib.extract_data, List.getElem?_take_of_lt (by omega), List.getElem?_drop, Nat.add_zero, List.getElem?_eq_getElem (by simp; omega)] at hb
    have := Option.some.inj hb
    rw [← this]
    show blL (s[k]'(by omega)) = false
    rw [blL_bt]; exact h3
  · rw [List.getLast?_eq_getElem?, Lib.extract_data, List.length_take, List.length_drop] at hb
    have hl : s.data.toList.length = s.size := by simp
    rw [hl, show min (j - k) (s.size - k) - 1 = j - k - 1 by omega, List.getElem?_take_of_lt (by omega), List.getElem?_drop, show k + (j - k - 1) = j - 1 by omega, List.getElem?_eq_getElem (by simp; omega)] at hb
    have := Option.some.inj hb
    rw [← this]
    show blL (s[j - 1]'(by omega)) = false
    rw [blL_bt]; exact h4
set_option maxRecDepth 100000 in
set_option maxHeartbeats 4000000 in
theorem trim_any (s : ByteArray) (hs : s.size ≤ 9223372036854775807) (w : World) : Calls Tryz.prog 91 #[.string s] w fun e w' => e = .returned (.string (trimB s)) ∧ w = w' := by
  have hsi : (s.size : Int) ≤ 9223372036854775807 := by omega
  go_enter Tryz.func91, Tryz.ntmps91
  go_wp2_with fail
  go_loop [3] (fun i => ∃ k : Nat, k ≤ s.size ∧ i = .int .i64 k ∧ ∀ j, j < k → isBl (bt s j) = true) (fun i => s.size - (intOf i).toNat)
  case atStart => exact ⟨0, by omega, rfl, fun j hj => by omega⟩
  case round =>
    obtain ⟨k, hk, rfl, hall⟩ := hrel
    have HA := Lib.hid hall
    clear hall
    by_cases hlt : k < s.size
    · have hki : (k : Int) < s.size := by omega
      obtain ⟨b, hb⟩ : ∃ b, b = bt s k := ⟨_, rfl⟩
      have hix : ∀ W : World, (Instr.index 9 (.string s) (.int .i64 k)).run Tryz.prog W = .ok (.int .u8 b) W := by rw [hb]; exact index_bt s k hlt
      cases hbl : isBl b
      · have HB := Lib.hid hbl
        have HBB := Lib.hid hb
        clear hb hbl
        go_wp2_with (go_at_call 134; refine (blank_at HB.out _).mono ?_; rintro e' w' ⟨rfl, rfl⟩)
        go_loop [4] (fun i => ∃ j : Nat, k + 1 ≤ j ∧ j ≤ s.size ∧ i = .int .i64 j ∧ ∀ x, j ≤ x → x < s.size → isBl (bt s x) = true) (fun i => (intOf i).toNat)
        case atStart => exact ⟨s.size, by omega, Nat.le_refl _, rfl, fun x h1 h2 => by omega⟩
        case round =>
          obtain ⟨j, hj1, hj2, rfl, hall⟩ := hrel
          have HC := Lib.hid hall
          clear hall hix
          obtain ⟨i, rfl⟩ : ∃ i, j = i + 1 := ⟨j - 1, by omega⟩
          have hji : (k : Int) < (i : Int) + 1 := by omega
          have hjk : (i : Int) + 1 ≤ 9223372036854775807 := by omega
          have hjs : (i : Int) < s.size := by omega
          obtain ⟨c, hc⟩ : ∃ c, c = bt s i := ⟨_, rfl⟩
          have hix : ∀ W : World, (Instr.index 9 (.string s) (.int .i64 i)).run Tryz.prog W = .ok (.int .u8 c) W := by rw [hc]; exact index_bt s i (by omega)
          cases hcl : isBl c
          · have HD := Lib.hid hcl
            have HR : Hid (trimB s = s.extract k (i + 1)) := trim_cut (by omega) hj2 HA.out HC.out (HBB.out ▸ HB.out) (by rw [Nat.add_sub_cancel]; exact hc ▸ hcl)
            have hsl := fun (W : World) => run_slice_string (w := W) 9 s .i64 .i64 (k : Int) ((i : Int) + 1) Tryz.underlying9 (by omega) (by omega) (by omega)
            have e1 : ((i : Int) + 1).toNat = i + 1 := rfl
            have e2 : (k : Int).toNat = k := rfl
            rw [e1, e2] at hsl
            clear hc hcl e1 e2
            go_wp2_with (go_at_call 134; refine (blank_at HD.out _).mono ?_; rintro e' w' ⟨rfl, rfl⟩)
            go_ret
            rw [HR.out]
            exact ⟨rfl, rfl⟩
          · have HD := Lib.hid hcl
            have hne : Hid (k + 1 ≤ i) := by
              show k + 1 ≤ i
              rcases (by omega : k + 1 ≤ i ∨ i = k) with h | h
              · exact h
              · rw [hc, h] at hcl
                have := HB.out
                rw [HBB.out, hcl] at this
                cases this
            have HE : Hid (∀ x, i ≤ x → x < s.size → isBl (bt s x) = true) := by
              show ∀ x, i ≤ x → x < s.size → isBl (bt s x) = true
              intro x h1 h2
              rcases (by omega : x = i ∨ i + 1 ≤ x) with rfl | h
              · rw [← hc]; exact hcl
              · exact HC.out x h h2
            clear hc hcl
            go_wp2_with (go_at_call 134; refine (blank_at HD.out _).mono ?_; rintro e' w' ⟨rfl, rfl⟩)
            go_round
            case rel => exact ⟨i, hne.out, by omega, by go_num, HE.out⟩
            case measure => simp [intOf]
      · have HB := Lib.hid hbl
        have HE : Hid (∀ j, j < k + 1 → isBl (bt s j) = true) := by
          show ∀ j, j < k + 1 → isBl (bt s j) = true
          intro x h1
          rcases (by omega : x = k ∨ x < k) with rfl | h
          · rw [← hb]; exact hbl
          · exact HA.out x h
        clear hb hbl
        go_wp2_with (go_at_call 134; refine (blank_at HB.out _).mono ?_; rintro e' w' ⟨rfl, rfl⟩)
        go_round
        case rel => exact ⟨k + 1, by omega, by go_num, HE.out⟩
        case measure => simp [intOf]; omega
    · obtain rfl : k = s.size := by omega
      have HR : Hid (trimB s = ByteArray.empty) := trim_none HA.out
      have hsl := fun (W : World) => run_slice_string (w := W) 9 s .i64 .i64 (s.size : Int) (s.size : Int) Tryz.underlying9 (by omega) (by omega) (by omega)
      have e2 : (s.size : Int).toNat = s.size := rfl
      rw [e2] at hsl
      have hd : decide ((s.size : Int) < s.size) = false := by rw [decide_eq_false_iff_not]; omega
      clear e2 hlt hk
      go_wp2_with fail
      refine wp_loop_rounds 1 ?_
      rw [rounds_succ]
      go_wp2_with fail
      go_ret
      rw [HR.out]
      exact ⟨rfl, rfl⟩
theorem list_first {s : ByteArray} (h : 0 < s.size) : s.data.toList = [s[0]'h] ++ (s.extract 1 s.size).data.toList := by
  have := list_cut s (k := 1) (j := s.size) (by omega)
  rw [List.drop_of_length_le (l := s.data.toList) (i := s.size) (by simp), List.append_nil] at this
  rw [this]
  congr 1
  rw [List.take_succ_eq_append_getElem (by simp; omega)]
  rfl
theorem list_last {s : ByteArray} (h : 0 < s.size) : s.data.toList = (s.extract 0 (s.size - 1)).data.toList ++ [s[s.size - 1]'(by omega)] := by
  have := list_cut s (k := 0) (j := s.size - 1) (by omega)
  rw [List.take_zero, List.nil_append] at this
  rw [this]
  congr 1
  rw [List.drop_eq_getElem_cons (by simp; omega), List.drop_of_length_le (by simp; omega)]
  rfl
theorem trim_step1 {s : ByteArray} (h : 0 < s.size) (hb : isBl (bt s 0) = true) : trimB (s.extract 1 s.size) = trimB s := by
  apply ext_list
  show trimL _ = trimL _
  rw [list_first h, trim_front]
  intro b hb'
  rw [List.mem_singleton] at hb'
  rw [hb', blL_bt]; exact hb
theorem trim_step2 {s : ByteArray} (h : 0 < s.size) (hb : isBl (bt s (s.size - 1)) = true) : trimB (s.extract 0 (s.size - 1)) = trimB s := by
  apply ext_list
  show trimL _ = trimL _
  rw [list_last h, trim_back]
  intro b hb'
  rw [List.mem_singleton] at hb'
  rw [hb', blL_bt]; exact hb
theorem trim_done {s : ByteArray} (h : 0 < s.size) (h1 : isBl (bt s 0) = false) (h2 : isBl (bt s (s.size - 1)) = false) : trimB s = s := by
  rw [trim_cut (k := 0) (j := s.size) h (Nat.le_refl _) (fun i hi => by omega) (fun i hi hi' => by omega) h1 h2]
  apply ext_list
  rw [Lib.extract_data, List.drop_zero, List.take_of_length_le (by simp)]
theorem trim_empty {s : ByteArray} (h : s.size = 0) : trimB s = s := by
  rw [trim_none (fun j hj => by omega)]
  apply ext_list
  have : s.data.toList = [] := List.eq_nil_of_length_eq_zero (by simpa using h)
  rw [this]
theorem cut_last_bt {s : ByteArray} (h : 1 < s.size) : bt (s.extract 0 (s.size - 1)) 0 = bt s 0 := by
  have hz : 0 < (s.extract 0 (s.size - 1)).size := by simp; omega
  have h1 : (s.extract 0 (s.size - 1)).data.toList[0]? = s.data.toList[0]? := by rw [Lib.extract_data, List.getElem?_take_of_lt (by omega), List.drop_zero]
  rw [bt_get _ 0 hz, bt_get s 0 (by omega)]
  rw [List.getElem?_eq_getElem (by simpa using hz), List.getElem?_eq_getElem (by simp; omega)] at h1
  exact congrArg (fun b : UInt8 => (b.toNat : Int)) (Option.some.inj h1)
set_option maxRecDepth 100000 in
set_option maxHeartbeats 4000000 in
theorem rtrim_any (s : ByteArray) (hs : s.size ≤ 9223372036854775807) (w : World) : Calls Tryz.prog 109 #[.string s] w fun e w' => e = .returned (.string (trimB s)) ∧ w = w' := by
  go_enter Tryz.func109, Tryz.ntmps109
  go_wp2_with fail
  go_loop [0] (fun v => ∃ S : ByteArray, v = .string S ∧ S.size ≤ 9223372036854775807 ∧ trimB S = trimB s) (fun v => (match v with | .string S => S.size | _ => 0))
  case atStart => exact ⟨s, rfl, hs, rfl⟩
  case round =>
    obtain ⟨S, rfl, hS, ht⟩ := hrel
    have HT := Lib.hid ht
    clear ht hs
    have hSi : (S.size : Int) ≤ 9223372036854775807 := by omega
    by_cases h0 : S.size = 0
    · have HR : Hid (trimB s = S) := by show trimB s = S; rw [← HT.out, trim_empty h0]
      have hz : (S.size : Int) = 0 := by omega
      clear h0
      go_wp2_with fail
      refine wp_loop_rounds 1 ?_
      rw [rounds_succ]
      go_wp2_with fail
      go_ret
      rw [HR.out]
      exact ⟨rfl, rfl⟩
    · have hp : (0 : Int) < S.size := by omega
      obtain ⟨b, hb⟩ : ∃ b, b = bt S 0 := ⟨_, rfl⟩
      have hix : ∀ W : World, (Instr.index 9 (.string S) (.int .i64 0)).run Tryz.prog W = .ok (.int .u8 b) W := by rw [hb]; exact index_bt S 0 (by omega)
      by_cases hx : b = 32 ∨ b = 9
      · have hsl := fun (W : World) => run_slice_string_l (P := Tryz.prog) W 9 S Tryz.underlying9 .i64 1 (by omega) (by omega)
        have e1 : (1 : Int).toNat = 1 := rfl
        rw [e1] at hsl
        have HN : Hid (trimB (S.extract 1 S.size) = trimB s ∧ (S.extract 1 S.size).size + 1 = S.size) := by
          show _ ∧ _
          refine ⟨?_, by simp; omega⟩
          rw [trim_step1 (by omega) (hb ▸ isBl_true hx)]; exact HT.out
        have hy : b = 32 ∨ ((b == 32) = false ∧ b = 9) := by
          rcases hx with h | h
          · exact .inl h
          · exact .inr ⟨by rw [h]; rfl, h⟩
        have HZ := Lib.hid h0
        clear hb hx h0 e1
        rcases hy with rfl | ⟨hy, rfl⟩
        all_goals
          go_wp2_with fail
          go_round
          case rel => exact ⟨_, rfl, by have := HN.out.2; omega, HN.out.1⟩
          case measure => have := HN.out.2; simp only []; omega
      · have n1 : (b == 32) = false := by rw [beq_eq_false_iff_ne]; exact fun h => hx (.inl h)
        have n2 : (b == 9) = false := by rw [beq_eq_false_iff_ne]; exact fun h => hx (.inr h)
        have HB : Hid (isBl (bt S 0) = false) := by show _ = _; rw [← hb]; exact isBl_false (fun h => hx (.inl h)) (fun h => hx (.inr h))
        have H0 := Lib.hid h0
        clear hb hx h0
        go_wp2_with fail
        go_loop [0] (fun v => ∃ X : ByteArray, v = .string X ∧ X.size ≤ 9223372036854775807 ∧ trimB X = trimB s ∧ 0 < X.size ∧ isBl (bt X 0) = false) (fun v => (match v with | .string X => X.size | _ => 0))
        case atStart => exact ⟨S, rfl, hS, HT.out, by have := H0.out; omega, HB.out⟩
        case round =>
          obtain ⟨X, rfl, hX, ht, hp2, hb2⟩ := hrel
          have HT2 := Lib.hid ht
          have HB2 := Lib.hid hb2
          clear ht hb2 hix n1 n2 hp hSi
          have hXi : (X.size : Int) ≤ 9223372036854775807 := by omega
          have hXp : (0 : Int) < X.size := by omega
          obtain ⟨i, hi⟩ : ∃ i, X.size = i + 1 := ⟨X.size - 1, by omega⟩
          have hii : (X.size : Int) - 1 = (i : Int) := by omega
          obtain ⟨c, hc⟩ : ∃ c, c = bt X i := ⟨_, rfl⟩
          have hix : ∀ W : World, (Instr.index 9 (.string X) (.int .i64 ((X.size : Int) - 1))).run Tryz.prog W = .ok (.int .u8 c) W := by rw [hc, hii]; exact index_bt X i (by omega)
          by_cases hx : c = 32 ∨ c = 9
          · have hsl := fun (W : World) => run_slice_string_h (P := Tryz.prog) W 9 X Tryz.underlying9 .i64 ((X.size : Int) - 1) (by omega) (by omega)
            have e1 : ((X.size : Int) - 1).toNat = X.size - 1 := by omega
            rw [e1] at hsl
            have hi2 : X.size - 1 = i := by omega
            have hne : 1 ≤ i := by
              rcases (by omega : 1 ≤ i ∨ i = 0) with h | h
              · exact h
              · rw [hc, h] at hx
                have := isBl_true hx
                rw [HB2.out] at this
                cases this
            have HN : Hid (trimB (X.extract 0 (X.size - 1)) = trimB s ∧ (X.extract 0 (X.size - 1)).size + 1 = X.size ∧ 1 ≤ (X.extract 0 (X.size - 1)).size ∧ isBl (bt (X.extract 0 (X.size - 1)) 0) = false) := by
              show _ ∧ _
              refine ⟨?_, by simp; omega, by simp; omega, ?_⟩
              · rw [trim_step2 (by omega) (by rw [hi2, ← hc]; exact isBl_true hx)]; exact HT2.out
              · rw [cut_last_bt (by omega)]; exact HB2.out
            have hy : c = 32 ∨ ((c == 32) = false ∧ c = 9) := by
              rcases hx with h | h
              · exact .inl h
              · exact .inr ⟨by rw [h]; rfl, h⟩
            have HI := Lib.hid hi
            clear hc hx e1 hi hi2 hii hne
            rcases hy with rfl | ⟨hy, rfl⟩
            all_goals
              go_wp2_with fail
              go_round
              case rel => exact ⟨_, rfl, by have := HN.out.2.1; omega, HN.out.1, HN.out.2.2.1, HN.out.2.2.2⟩
              case measure => have := HN.out.2.1; simp only []; omega
          · have n1 : (c == 32) = false := by rw [beq_eq_false_iff_ne]; exact fun h => hx (.inl h)
            have n2 : (c == 9) = false := by rw [beq_eq_false_iff_ne]; exact fun h => hx (.inr h)
            have HR : Hid (trimB s = X) := by
              show trimB s = X
              rw [← HT2.out]
              exact trim_done hp2 HB2.out (by rw [show X.size - 1 = i by omega, ← hc]; exact isBl_false (fun h => hx (.inl h)) (fun h => hx (.inr h)))
            clear hc hx hi hii
            go_wp2_with fail
            go_ret
            rw [HR.out]
            exact ⟨rfl, rfl⟩
end Go.Proofs.YtcpjkemjpgggcaaGreatDoor
-- PrP
namespace Go.Proofs.YtcpjkemjpgggcaaGreatDoor
open Go.RowKit
def skipN (l : List UInt8) : Nat := (l.takeWhile blL).length
def tkB (b : UInt8) : Bool := tcharB b.toNat
def tokN (l : List UInt8) : Nat := (l.takeWhile tkB).length
/-- What stands quoted, behind its first mark: how many octets, and the text. -/
def qtL : List UInt8 → Option (Nat × List UInt8)
  | [] => none
  | b :: t => if b = 34 then some (1, []) else if b = 92 then
      (match t with
       | [] => none
       | c :: r => if valueB c.toNat = true then (qtL r).map (fun p => (p.1 + 2, c :: p.2)) else none)
    else if valueB b.toNat = true then (qtL t).map (fun p => (p.1 + 1, b :: p.2)) else none
def quL : List UInt8 → Option (Nat × List UInt8)
  | [] => none
  | b :: t => if b = 34 then (qtL t).map (fun p => (p.1 + 1, p.2)) else none
/-- How many octets a parameter's value takes, with the sign ahead of it. -/
def valF (l : List UInt8) : Option Nat :=
  match l.drop (skipN l) with
  | [] => some 0
  | b :: r => if b = 61 then
      (if 0 < tokN (r.drop (skipN r)) then some (skipN l + 1 + skipN r + tokN (r.drop (skipN r)))
       else (quL (r.drop (skipN r))).map (fun p => skipN l + 1 + skipN r + p.1))
    else some 0
/-- How many octets a parameter takes. -/
def parF (l : List UInt8) : Option Nat :=
  match l.drop (skipN l) with
  | [] => none
  | b :: r => if b = 59 then
      (if tokN (r.drop (skipN r)) = 0 then none
       else (valF (r.drop (skipN r + tokN (r.drop (skipN r))))).map (fun n => skipN l + 1 + skipN r + tokN (r.drop (skipN r)) + n))
    else none
/-- How many parameters a text is. -/
def parsF (l : List UInt8) : Option Nat :=
  match l with
  | [] => some 0
  | c :: t =>
    match parF (c :: t) with
    | none => none
    | some 0 => none
    | some (n + 1) => (parsF (t.drop n)).map (· + 1)
termination_by l.length
decreasing_by simp only [List.length_cons, List.length_drop]; omega
def lowI (c : Int) : Int := if 65 ≤ c ∧ c ≤ 90 then c + 32 else c
def low8 (b : UInt8) : UInt8 := if 65 ≤ b.toNat ∧ b.toNat ≤ 90 then b + 32 else b
def lowL (l : List UInt8) : List UInt8 := l.map low8
def lowB (s : ByteArray) : ByteArray := ⟨(lowL s.data.toList).toArray⟩
theorem low8_nat (b : UInt8) : ((low8 b).toNat : Int) = lowI b.toNat := by
  unfold low8 lowI
  have hb : b.toNat < 256 := b.toNat_lt
  by_cases h : 65 ≤ b.toNat ∧ b.toNat ≤ 90
  · rw [if_pos h, if_pos (by omega), UInt8.toNat_add]
    show (((b.toNat + 32) % 256 : Nat) : Int) = _
    omega
  · rw [if_neg h, if_neg (by omega)]
theorem lowB_size (s : ByteArray) : (lowB s).size = s.size := by
  show (lowL s.data.toList).toArray.size = s.size
  unfold lowL
  simp
/-- A text's word, how many parameters stand behind it, and what is wrong. -/
def wordP (s : ByteArray) : ByteArray × Nat × Int :=
  if s.size = 0 then (⟨#[]⟩, 0, 2)
  else if tokN s.data.toList = 0 then (⟨#[]⟩, 0, 3)
  else match parsF (s.data.toList.drop (tokN s.data.toList)) with
    | none => (⟨#[]⟩, 0, 3)
    | some k => (lowB (s.extract 0 (tokN s.data.toList)), k, 0)
theorem skipN_le (l : List UInt8) : skipN l ≤ l.length := by unfold skipN; exact List.Sublist.length_le (List.takeWhile_sublist _)
theorem tokN_le (l : List UInt8) : tokN l ≤ l.length := by unfold tokN; exact List.Sublist.length_le (List.takeWhile_sublist _)
theorem qtL_le : ∀ (n : Nat) (l : List UInt8) (p : Nat × List UInt8), l.length ≤ n → qtL l = some p → 1 ≤ p.1 ∧ p.1 ≤ l.length ∧ p.2.length ≤ l.length
  | _, [], _, _, h => by rw [qtL] at h; cases h
  | 0, b :: t, _, hn, _ => by simp at hn
  | n + 1, b :: t, p, hn, h => by
    have ht : t.length ≤ n := by simpa using hn
    rw [qtL.eq_def] at h
    simp only at h
    split at h
    · cases h; simp
    split at h
    · cases t with
      | nil => cases h
      | cons c r =>
        simp only at h
        split at h
        · cases hq : qtL r with
          | none => rw [hq] at h; cases h
          | some q =>
            rw [hq] at h
            cases h
            have := qtL_le n r q (by simp at ht; omega) hq
            simp only [List.length_cons]
            omega
        · cases h
    split at h
    · cases hq : qtL t with
      | none => rw [hq] at h; cases h
      | some q =>
        rw [hq] at h
        cases h
        have := qtL_le n t q ht hq
        simp only [List.length_cons]
        omega
    · cases h
theorem quL_le {l : List UInt8} {p : Nat × List UInt8} (h : quL l = some p) : 2 ≤ p.1 ∧ p.1 ≤ l.length ∧ p.2.length ≤ l.length := by
  cases l with
  | nil => cases h
  | cons b t =>
    unfold quL at h
    simp only at h
    split at h
    · cases hq : qtL t with
      | none => rw [hq] at h; cases h
      | some q =>
        rw [hq] at h
        cases h
        have := qtL_le _ t q (Nat.le_refl _) hq
        simp only [List.length_cons]
        omega
    · cases h
theorem drop_cons_le {l r : List UInt8} {n : Nat} {b : UInt8} (h : l.drop n = b :: r) : n + 1 + r.length = l.length := by
  have := congrArg List.length h
  rw [List.length_drop, List.length_cons] at this
  have : n < l.length := by omega
  omega
theorem valF_le {l : List UInt8} {n : Nat} (h : valF l = some n) : n ≤ l.length := by
  unfold valF at h
  split at h
  · cases h; omega
  · rename_i b r hb
    have h1 := drop_cons_le hb
    have h2 := skipN_le r
    split at h
    · split at h
      · cases h
        have := tokN_le (r.drop (skipN r))
        rw [List.length_drop] at this
        omega
      · cases hq : quL (r.drop (skipN r)) with
        | none => rw [hq] at h; cases h
        | some q =>
          rw [hq] at h
          cases h
          have := quL_le hq
          rw [List.length_drop] at this
          dsimp only
          omega
    · cases h; omega
theorem parF_le {l : List UInt8} {n : Nat} (h : parF l = some n) : 2 ≤ n ∧ n ≤ l.length := by
  unfold parF at h
  split at h
  · cases h
  · rename_i b r hb
    have h1 := drop_cons_le hb
    have h2 := skipN_le r
    split at h
    · split at h
      · cases h
      · rename_i h3
        have h4 := tokN_le (r.drop (skipN r))
        rw [List.length_drop] at h4
        cases hv : valF (r.drop (skipN r + tokN (r.drop (skipN r)))) with
        | none => rw [hv] at h; cases h
        | some m =>
          rw [hv] at h
          cases h
          have := valF_le hv
          rw [List.length_drop] at this
          dsimp only
          omega
    · cases h
theorem parsF_step {l : List UInt8} (hl : l ≠ []) : parsF l = match parF l with | none => none | some n => (parsF (l.drop n)).map (· + 1) := by
  cases l with
  | nil => exact absurd rfl hl
  | cons c t =>
    rw [parsF]
    cases hp : parF (c :: t) with
    | none => rfl
    | some n =>
      have := parF_le hp
      obtain ⟨m, rfl⟩ : ∃ m, n = m + 1 := ⟨n - 1, by omega⟩
      rfl
theorem parsF_nil : parsF [] = some 0 := by rw [parsF]
theorem parsF_le : ∀ (n : Nat) (l : List UInt8) (k : Nat), l.length ≤ n → parsF l = some k → k ≤ l.length
  | _, [], k, _, h => by rw [parsF_nil] at h; cases h; simp
  | 0, c :: t, _, hn, _ => by simp at hn
  | n + 1, c :: t, k, hn, h => by
    rw [parsF_step (by simp)] at h
    cases hp : parF (c :: t) with
    | none => rw [hp] at h; cases h
    | some m =>
      have hm := parF_le hp
      rw [hp] at h
      simp only at h
      cases hq : parsF ((c :: t).drop m) with
      | none => rw [hq] at h; cases h
      | some j =>
        rw [hq] at h
        cases h
        have := parsF_le n ((c :: t).drop m) j (by rw [List.length_drop]; omega) hq
        rw [List.length_drop] at this
        dsimp only
        omega
end Go.Proofs.YtcpjkemjpgggcaaGreatDoor
-- LsP
namespace Go.Proofs.YtcpjkemjpgggcaaGreatDoor
open Go.RowKit
/-- How a place is closed in: between marks, behind a slash, in so many brackets. -/
structure Sc where
  q : Bool
  s : Bool
  d : Nat
def scz : Sc := ⟨false, false, 0⟩
def Sc.closed (x : Sc) : Bool := !x.q && (!x.s && x.d == 0)
def Sc.see (x : Sc) (c : Int) : Sc :=
  if x.s = true then ⟨x.q, false, x.d⟩
  else if c = 92 then ⟨x.q, x.q || decide (0 < x.d), x.d⟩
  else if x.q = true then ⟨decide (c ≠ 34), false, x.d⟩
  else if c = 40 then ⟨false, false, x.d + 1⟩
  else if 0 < x.d then (if c = 41 then ⟨false, false, x.d - 1⟩ else ⟨false, false, x.d⟩)
  else if c = 34 then ⟨true, false, 0⟩
  else ⟨false, false, 0⟩
theorem closed_z {x : Sc} (h : x.closed = true) : x = scz := by
  obtain ⟨q, s, d⟩ := x
  unfold Sc.closed at h
  cases q <;> cases s <;> simp at h ⊢
  subst h
  rfl
def scfin : Sc → List UInt8 → Sc
  | x, [] => x
  | x, c :: l => scfin (x.see c.toNat) l
/-- The pieces: 'a' is begun. -/
def pcs : Sc → List UInt8 → List UInt8 → List (List UInt8)
  | _, a, [] => [a]
  | x, a, c :: l => if (c == 44 && x.closed) = true then a :: pcs x [] l else pcs (x.see c.toNat) (a ++ [c]) l
/-- How many octets till all is closed again. -/
def behL : Sc → List UInt8 → Option Nat
  | _, [] => none
  | x, c :: l => if (x.see c.toNat).closed = true then some 1 else (behL (x.see c.toNat) l).map (· + 1)
theorem behL_le : ∀ (l : List UInt8) (x : Sc) (n : Nat), behL x l = some n → 1 ≤ n ∧ n ≤ l.length
  | [], _, _, h => by cases h
  | c :: l, x, n, h => by
    unfold behL at h
    split at h
    · cases h; simp
    · cases hb : behL (x.see c.toNat) l with
      | none => rw [hb] at h; cases h
      | some m =>
        rw [hb] at h
        cases h
        have := behL_le l _ m hb
        simp only [List.length_cons]
        omega
theorem behL_some : ∀ (l : List UInt8) (x : Sc) (n : Nat) (a : List UInt8), x.closed = false → behL x l = some n → scfin x l = scfin scz (l.drop n) ∧ pcs x a l = pcs scz (a ++ l.take n) (l.drop n)
  | [], _, _, _, _, h => by cases h
  | c :: l, x, n, a, hx, h => by
    unfold behL at h
    have hp : pcs x a (c :: l) = pcs (x.see c.toNat) (a ++ [c]) l := by
      rw [pcs, hx, Bool.and_false, if_neg (by decide)]
    rw [hp]
    split at h
    · rename_i hc
      cases h
      rw [scfin, closed_z hc]
      exact ⟨rfl, rfl⟩
    · rename_i hc
      cases hb : behL (x.see c.toNat) l with
      | none => rw [hb] at h; cases h
      | some m =>
        rw [hb] at h
        cases h
        have := behL_some l _ m (a ++ [c]) (by simpa using hc) hb
        rw [scfin, this.1, this.2, List.append_assoc]
        exact ⟨rfl, rfl⟩
theorem behL_none : ∀ (l : List UInt8) (x : Sc), x.closed = false → behL x l = none → (scfin x l).closed = false
  | [], x, hx, _ => hx
  | c :: l, x, hx, h => by
    unfold behL at h
    split at h
    · cases h
    · rename_i hc
      rw [scfin]
      refine behL_none l _ (by simpa using hc) ?_
      cases hb : behL (x.see c.toNat) l with
      | none => rfl
      | some m => rw [hb] at h; cases h
/-- What the reference cuts: 'a' is begun. -/
def rcs (a : List UInt8) (l : List UInt8) : Option (List (List UInt8)) :=
  match l with
  | [] => some [a]
  | c :: t =>
    if c = 34 ∨ c = 40 then
      match behL (scz.see c.toNat) t with
      | none => none
      | some n => rcs (a ++ c :: t.take n) (t.drop n)
    else if c = 44 then (rcs [] t).map (a :: ·)
    else rcs (a ++ [c]) t
termination_by l.length
decreasing_by
  all_goals simp only [List.length_cons, List.length_drop]; omega
theorem see_z {c : UInt8} (h1 : c ≠ 34) (h2 : c ≠ 40) : scz.see c.toNat = scz := by
  have e1 : ¬ (c.toNat : Int) = 34 := fun h => h1 (UInt8.toNat_inj.1 (by have : c.toNat = 34 := by omega
                                                                         rw [this]; rfl))
  have e2 : ¬ (c.toNat : Int) = 40 := fun h => h2 (UInt8.toNat_inj.1 (by have : c.toNat = 40 := by omega
                                                                         rw [this]; rfl))
  unfold Sc.see scz
  simp [e1, e2]
theorem see_o {c : UInt8} (h : c = 34 ∨ c = 40) : (scz.see c.toNat).closed = false := by
  rcases h with rfl | rfl <;> decide
/-- The two ways to read come to the same. -/
theorem rcs_pcs : ∀ (n : Nat) (l a : List UInt8), l.length ≤ n → rcs a l = if (scfin scz l).closed = true then some (pcs scz a l) else none
  | n, [], a, _ => by
    rw [rcs]; rfl
  | 0, c :: t, a, h => by simp at h
  | n + 1, c :: t, a, h => by
    have ht : t.length ≤ n := by simpa using h
    rw [rcs]
    by_cases hc : c = 34 ∨ c = 40
    · rw [if_pos hc]
      have ho := see_o hc
      have hp : pcs scz a (c :: t) = pcs (scz.see c.toNat) (a ++ [c]) t := by
        rw [pcs]
        have : (c == 44) = false := by rcases hc with rfl | rfl <;> decide
        rw [this, Bool.false_and, if_neg (by decide)]
      rw [hp, scfin]
      cases hb : behL (scz.see c.toNat) t with
      | none =>
        rw [behL_none t _ ho hb]
        rfl
      | some m =>
        obtain ⟨e1, e2⟩ := behL_some t _ m (a ++ [c]) ho hb
        show rcs (a ++ c :: t.take m) (t.drop m) = _
        rw [e1, e2, rcs_pcs n (t.drop m) _ (by rw [List.length_drop]; omega), List.append_assoc]
        rfl
    · rw [if_neg hc]
      have h1 : c ≠ 34 := fun h => hc (Or.inl h)
      have h2 : c ≠ 40 := fun h => hc (Or.inr h)
      have hz := see_z h1 h2
      rw [scfin, hz]
      by_cases h44 : c = 44
      · rw [if_pos h44, rcs_pcs n t [] ht]
        have hp : pcs scz a (c :: t) = a :: pcs scz [] t := by
          rw [pcs, h44, if_pos (by decide)]
        rw [hp]
        split <;> rfl
      · rw [if_neg h44, rcs_pcs n t _ ht]
        have hp : pcs scz a (c :: t) = pcs scz (a ++ [c]) t := by
          rw [pcs]
          have : (c == 44) = false := by rw [beq_eq_false_iff_ne]; exact h44
          rw [this, Bool.false_and, if_neg (by decide), hz]
        rw [hp]
/-- The elements of a text. -/
def someL (ps : List (List UInt8)) : List ByteArray := (ps.map fun p => (⟨(trimL p).toArray⟩ : ByteArray)).filter fun e => !e.toList.isEmpty
def splitP (s : ByteArray) : Option (List ByteArray) :=
  if (scfin scz s.data.toList).closed = true then some (someL (pcs scz [] s.data.toList)) else none
theorem splitP_rcs (s : ByteArray) : splitP s = (rcs [] s.data.toList).map someL := by
  rw [rcs_pcs _ _ _ (Nat.le_refl _)]
  unfold splitP
  split <;> rfl
end Go.Proofs.YtcpjkemjpgggcaaGreatDoor
-- LsW
namespace Go.Proofs.YtcpjkemjpgggcaaGreatDoor
open Go.RowKit
def Sc.row (x : Sc) : Array Value := #[.bool x.q, .bool x.s, .int .i64 (x.d : Int)]
theorem sc_st0 {w : World} {g : Nat} {q s : Bool} {d : Int} (h : Blk w g #[.bool q, .bool s, .int .i64 d] 197) (v : Bool) : Blk (w.setCell ⟨g, 0, none⟩ (.bool v)) g #[.bool v, .bool s, .int .i64 d] 197 := by
  have := h.set 0 (.bool v)
  simpa using this
theorem sc_st1 {w : World} {g : Nat} {q s : Bool} {d : Int} (h : Blk w g #[.bool q, .bool s, .int .i64 d] 197) (v : Bool) : Blk (w.setCell ⟨g, 1, none⟩ (.bool v)) g #[.bool q, .bool v, .int .i64 d] 197 := by
  have := h.set 1 (.bool v)
  simpa using this
theorem sc_st2 {w : World} {g : Nat} {q s : Bool} {d : Int} (h : Blk w g #[.bool q, .bool s, .int .i64 d] 197) (v : Int) : Blk (w.setCell ⟨g, 2, none⟩ (.int .i64 v)) g #[.bool q, .bool s, .int .i64 v] 197 := by
  have := h.set 2 (.int .i64 v)
  simpa using this
set_option maxRecDepth 100000 in
set_option maxHeartbeats 1000000 in
theorem see_sl {w : World} {g : Nat} {q : Bool} {d : Nat} {c : Int} (h : Blk w g #[.bool q, .bool true, .int .i64 (d : Int)] 197)  :
    Calls Tryz.prog 184 #[.pointer (some ⟨g, 0, none⟩), .int .u8 c] w fun e w' => e = .returned (.tuple #[]) ∧ Blk w' g (Sc.see ⟨q, true, d⟩ c).row 197 ∧ Touch (fun k => k = g) w w' := by
  have H := Lib.hid h
  have k0 := h.cell 0
  have k1 := h.cell 1
  have k2 := h.cell 2
  have f0 := h.froz 0
  have f1 := h.froz 1
  have f2 := h.froz 2
  simp at k0 k1 k2
  have HV : Hid (Sc.see ⟨q, true, d⟩ c = ⟨q, false, d⟩) := by show _ = _; simp [Sc.see]
  clear h
  go_enter Tryz.func184, Tryz.ntmps184
  go_wp2_with fail
  go_end0
  rw [HV.out]
  refine ⟨rfl, ?_, Touch.setCell (P := fun k => k = g) (Touch.refl _ _) rfl _⟩
  have := sc_st1 H.out false
  simpa [Sc.row] using this
set_option maxRecDepth 100000 in
set_option maxHeartbeats 1000000 in
theorem see_bsq {w : World} {g : Nat} {d : Nat} {c : Int} (h : Blk w g #[.bool true, .bool false, .int .i64 (d : Int)] 197) (h1 : c = 92) :
    Calls Tryz.prog 184 #[.pointer (some ⟨g, 0, none⟩), .int .u8 c] w fun e w' => e = .returned (.tuple #[]) ∧ Blk w' g (Sc.see ⟨true, false, d⟩ c).row 197 ∧ Touch (fun k => k = g) w w' := by
  have H := Lib.hid h
  have k0 := h.cell 0
  have k1 := h.cell 1
  have k2 := h.cell 2
  have f0 := h.froz 0
  have f1 := h.froz 1
  have f2 := h.froz 2
  simp at k0 k1 k2
  subst h1
  have HV : Hid (Sc.see ⟨true, false, d⟩ 92 = ⟨true, true, d⟩) := by show _ = _; simp [Sc.see]
  clear h
  go_enter Tryz.func184, Tryz.ntmps184
  go_wp2_with fail
  go_end0
  rw [HV.out]
  refine ⟨rfl, ?_, Touch.setCell (P := fun k => k = g) (Touch.refl _ _) rfl _⟩
  have := sc_st1 H.out true
  simpa [Sc.row] using this
set_option maxRecDepth 100000 in
set_option maxHeartbeats 1000000 in
theorem see_bsd {w : World} {g : Nat} {d : Nat} {c : Int} (h : Blk w g #[.bool false, .bool false, .int .i64 (d : Int)] 197) (h1 : c = 92) (hd : 0 < d) :
    Calls Tryz.prog 184 #[.pointer (some ⟨g, 0, none⟩), .int .u8 c] w fun e w' => e = .returned (.tuple #[]) ∧ Blk w' g (Sc.see ⟨false, false, d⟩ c).row 197 ∧ Touch (fun k => k = g) w w' := by
  have H := Lib.hid h
  have k0 := h.cell 0
  have k1 := h.cell 1
  have k2 := h.cell 2
  have f0 := h.froz 0
  have f1 := h.froz 1
  have f2 := h.froz 2
  simp at k0 k1 k2
  have d1 : decide ((0 : Int) < (d : Int)) = true := decide_eq_true (by omega)
  have HV : Hid (Sc.see ⟨false, false, d⟩ c = ⟨false, true, d⟩) := by show _ = _; rw [h1]; simp [Sc.see, hd]
  subst h1
  clear h
  go_enter Tryz.func184, Tryz.ntmps184
  go_wp2_with fail
  go_end0
  rw [HV.out]
  refine ⟨rfl, ?_, Touch.setCell (P := fun k => k = g) (Touch.refl _ _) rfl _⟩
  have := sc_st1 H.out true
  simpa [Sc.row] using this
set_option maxRecDepth 100000 in
set_option maxHeartbeats 1000000 in
theorem see_bsn {w : World} {g : Nat} {c : Int} (h : Blk w g #[.bool false, .bool false, .int .i64 0] 197) (h1 : c = 92) :
    Calls Tryz.prog 184 #[.pointer (some ⟨g, 0, none⟩), .int .u8 c] w fun e w' => e = .returned (.tuple #[]) ∧ Blk w' g (Sc.see ⟨false, false, 0⟩ c).row 197 ∧ Touch (fun k => k = g) w w' := by
  have H := Lib.hid h
  have k0 := h.cell 0
  have k1 := h.cell 1
  have k2 := h.cell 2
  have f0 := h.froz 0
  have f1 := h.froz 1
  have f2 := h.froz 2
  simp at k0 k1 k2
  subst h1
  have HV : Hid (Sc.see ⟨false, false, 0⟩ 92 = ⟨false, false, 0⟩) := by show _ = _; simp [Sc.see]
  clear h
  go_enter Tryz.func184, Tryz.ntmps184
  go_wp2_with fail
  go_end0
  rw [HV.out]
  refine ⟨rfl, ?_, Touch.setCell (P := fun k => k = g) (Touch.refl _ _) rfl _⟩
  have := sc_st1 H.out false
  simpa [Sc.row] using this
set_option maxRecDepth 100000 in
set_option maxHeartbeats 1000000 in
theorem see_qq {w : World} {g : Nat} {d : Nat} {c : Int} (h : Blk w g #[.bool true, .bool false, .int .i64 (d : Int)] 197) (h1 : c = 34) :
    Calls Tryz.prog 184 #[.pointer (some ⟨g, 0, none⟩), .int .u8 c] w fun e w' => e = .returned (.tuple #[]) ∧ Blk w' g (Sc.see ⟨true, false, d⟩ c).row 197 ∧ Touch (fun k => k = g) w w' := by
  have H := Lib.hid h
  have k0 := h.cell 0
  have k1 := h.cell 1
  have k2 := h.cell 2
  have f0 := h.froz 0
  have f1 := h.froz 1
  have f2 := h.froz 2
  simp at k0 k1 k2
  subst h1
  have HV : Hid (Sc.see ⟨true, false, d⟩ 34 = ⟨false, false, d⟩) := by show _ = _; simp [Sc.see]
  clear h
  go_enter Tryz.func184, Tryz.ntmps184
  go_wp2_with fail
  go_end0
  rw [HV.out]
  refine ⟨rfl, ?_, Touch.setCell (P := fun k => k = g) (Touch.refl _ _) rfl _⟩
  have := sc_st0 H.out false
  simpa [Sc.row] using this
set_option maxRecDepth 100000 in
set_option maxHeartbeats 1000000 in
theorem see_qo {w : World} {g : Nat} {d : Nat} {c : Int} (h : Blk w g #[.bool true, .bool false, .int .i64 (d : Int)] 197) (h1 : c ≠ 92) (h2 : c ≠ 34) :
    Calls Tryz.prog 184 #[.pointer (some ⟨g, 0, none⟩), .int .u8 c] w fun e w' => e = .returned (.tuple #[]) ∧ Blk w' g (Sc.see ⟨true, false, d⟩ c).row 197 ∧ Touch (fun k => k = g) w w' := by
  have H := Lib.hid h
  have k0 := h.cell 0
  have k1 := h.cell 1
  have k2 := h.cell 2
  have f0 := h.froz 0
  have f1 := h.froz 1
  have f2 := h.froz 2
  simp at k0 k1 k2
  have HV : Hid (Sc.see ⟨true, false, d⟩ c = ⟨true, false, d⟩) := by show _ = _; unfold Sc.see; simp [h1, h2]
  have x92a : (c == 92) = false := by rw [beq_eq_false_iff_ne]; exact h1
  have x92b : (c != 92) = true := by rw [bne_iff_ne]; exact h1
  have x92d : decide (c = 92) = false := decide_eq_false h1
  have x34a : (c == 34) = false := by rw [beq_eq_false_iff_ne]; exact h2
  have x34b : (c != 34) = true := by rw [bne_iff_ne]; exact h2
  have x34d : decide (c = 34) = false := decide_eq_false h2
  clear h h1 h2
  go_enter Tryz.func184, Tryz.ntmps184
  go_wp2_with fail
  go_end0
  rw [HV.out]
  refine ⟨rfl, ?_, Touch.setCell (P := fun k => k = g) (Touch.refl _ _) rfl _⟩
  have := sc_st0 H.out true
  simpa [Sc.row] using this
set_option maxRecDepth 100000 in
set_option maxHeartbeats 1000000 in
theorem see_op {w : World} {g : Nat} {d : Nat} {c : Int} (h : Blk w g #[.bool false, .bool false, .int .i64 (d : Int)] 197) (h1 : c = 40) (hd : d ≤ 1000000) :
    Calls Tryz.prog 184 #[.pointer (some ⟨g, 0, none⟩), .int .u8 c] w fun e w' => e = .returned (.tuple #[]) ∧ Blk w' g (Sc.see ⟨false, false, d⟩ c).row 197 ∧ Touch (fun k => k = g) w w' := by
  have H := Lib.hid h
  have k0 := h.cell 0
  have k1 := h.cell 1
  have k2 := h.cell 2
  have f0 := h.froz 0
  have f1 := h.froz 1
  have f2 := h.froz 2
  simp at k0 k1 k2
  subst h1
  have HV : Hid (Sc.see ⟨false, false, d⟩ 40 = ⟨false, false, (d + 1)⟩) := by show _ = _; simp [Sc.see]
  clear h
  go_enter Tryz.func184, Tryz.ntmps184
  go_wp2_with fail
  go_end0
  rw [HV.out]
  refine ⟨rfl, ?_, Touch.setCell (P := fun k => k = g) (Touch.refl _ _) rfl _⟩
  have := sc_st2 H.out ((d : Int) + 1)
  simpa [Sc.row] using this
set_option maxRecDepth 100000 in
set_option maxHeartbeats 1000000 in
theorem see_cl {w : World} {g : Nat} {d : Nat} {c : Int} (h : Blk w g #[.bool false, .bool false, .int .i64 ((d + 1 : Nat) : Int)] 197) (h1 : c = 41) (hd : d ≤ 1000000) :
    Calls Tryz.prog 184 #[.pointer (some ⟨g, 0, none⟩), .int .u8 c] w fun e w' => e = .returned (.tuple #[]) ∧ Blk w' g (Sc.see ⟨false, false, (d + 1)⟩ c).row 197 ∧ Touch (fun k => k = g) w w' := by
  have H := Lib.hid h
  have k0 := h.cell 0
  have k1 := h.cell 1
  have k2 := h.cell 2
  have f0 := h.froz 0
  have f1 := h.froz 1
  have f2 := h.froz 2
  simp at k0 k1 k2
  have d1 : decide ((0 : Int) < ((d + 1 : Nat) : Int)) = true := decide_eq_true (by omega)
  subst h1
  have HV : Hid (Sc.see ⟨false, false, (d + 1)⟩ 41 = ⟨false, false, d⟩) := by show _ = _; simp [Sc.see]
  clear h
  go_enter Tryz.func184, Tryz.ntmps184
  go_wp2_with fail
  go_end0
  rw [HV.out]
  refine ⟨rfl, ?_, Touch.setCell (P := fun k => k = g) (Touch.refl _ _) rfl _⟩
  have := sc_st2 H.out (d : Int)
  simpa [Sc.row] using this
set_option maxRecDepth 100000 in
set_option maxHeartbeats 1000000 in
theorem see_in {w : World} {g : Nat} {d : Nat} {c : Int} (h : Blk w g #[.bool false, .bool false, .int .i64 ((d + 1 : Nat) : Int)] 197) (h1 : c ≠ 92) (h2 : c ≠ 40) (h3 : c ≠ 41) (hd : d ≤ 1000000) :
    Calls Tryz.prog 184 #[.pointer (some ⟨g, 0, none⟩), .int .u8 c] w fun e w' => e = .returned (.tuple #[]) ∧ Blk w' g (Sc.see ⟨false, false, (d + 1)⟩ c).row 197 ∧ Touch (fun k => k = g) w w' := by
  have H := Lib.hid h
  have k0 := h.cell 0
  have k1 := h.cell 1
  have k2 := h.cell 2
  have f0 := h.froz 0
  have f1 := h.froz 1
  have f2 := h.froz 2
  simp at k0 k1 k2
  have HV : Hid (Sc.see ⟨false, false, (d + 1)⟩ c = ⟨false, false, (d + 1)⟩) := by show _ = _; unfold Sc.see; simp [h1, h2, h3]
  have x92a : (c == 92) = false := by rw [beq_eq_false_iff_ne]; exact h1
  have x92b : (c != 92) = true := by rw [bne_iff_ne]; exact h1
  have x92d : decide (c = 92) = false := decide_eq_false h1
  have x40a : (c == 40) = false := by rw [beq_eq_false_iff_ne]; exact h2
  have x40b : (c != 40) = true := by rw [bne_iff_ne]; exact h2
  have x40d : decide (c = 40) = false := decide_eq_false h2
  have x41a : (c == 41) = false := by rw [beq_eq_false_iff_ne]; exact h3
  have x41b : (c != 41) = true := by rw [bne_iff_ne]; exact h3
  have x41d : decide (c = 41) = false := decide_eq_false h3
  have d1 : decide ((0 : Int) < ((d + 1 : Nat) : Int)) = true := decide_eq_true (by omega)
  have d2 : (((d + 1 : Nat) : Int) == 0) = false := by rw [beq_eq_false_iff_ne]; omega
  clear h h1 h2 h3
  go_enter Tryz.func184, Tryz.ntmps184
  go_wp2_with fail
  go_end0
  rw [HV.out]
  exact ⟨rfl, H.out, Touch.refl _ _⟩
set_option maxRecDepth 100000 in
set_option maxHeartbeats 1000000 in
theorem see_qn {w : World} {g : Nat} {c : Int} (h : Blk w g #[.bool false, .bool false, .int .i64 0] 197) (h1 : c = 34) :
    Calls Tryz.prog 184 #[.pointer (some ⟨g, 0, none⟩), .int .u8 c] w fun e w' => e = .returned (.tuple #[]) ∧ Blk w' g (Sc.see ⟨false, false, 0⟩ c).row 197 ∧ Touch (fun k => k = g) w w' := by
  have H := Lib.hid h
  have k0 := h.cell 0
  have k1 := h.cell 1
  have k2 := h.cell 2
  have f0 := h.froz 0
  have f1 := h.froz 1
  have f2 := h.froz 2
  simp at k0 k1 k2
  subst h1
  have HV : Hid (Sc.see ⟨false, false, 0⟩ 34 = ⟨true, false, 0⟩) := by show _ = _; simp [Sc.see]
  clear h
  go_enter Tryz.func184, Tryz.ntmps184
  go_wp2_with fail
  go_end0
  rw [HV.out]
  refine ⟨rfl, ?_, Touch.setCell (P := fun k => k = g) (Touch.refl _ _) rfl _⟩
  have := sc_st0 H.out true
  simpa [Sc.row] using this
set_option maxRecDepth 100000 in
set_option maxHeartbeats 1000000 in
theorem see_ot {w : World} {g : Nat} {c : Int} (h : Blk w g #[.bool false, .bool false, .int .i64 0] 197) (h1 : c ≠ 92) (h2 : c ≠ 40) (h3 : c ≠ 34) :
    Calls Tryz.prog 184 #[.pointer (some ⟨g, 0, none⟩), .int .u8 c] w fun e w' => e = .returned (.tuple #[]) ∧ Blk w' g (Sc.see ⟨false, false, 0⟩ c).row 197 ∧ Touch (fun k => k = g) w w' := by
  have H := Lib.hid h
  have k0 := h.cell 0
  have k1 := h.cell 1
  have k2 := h.cell 2
  have f0 := h.froz 0
  have f1 := h.froz 1
  have f2 := h.froz 2
  simp at k0 k1 k2
  have HV : Hid (Sc.see ⟨false, false, 0⟩ c = ⟨false, false, 0⟩) := by show _ = _; unfold Sc.see; simp [h1, h2, h3]
  have x92a : (c == 92) = false := by rw [beq_eq_false_iff_ne]; exact h1
  have x92b : (c != 92) = true := by rw [bne_iff_ne]; exact h1
  have x92d : decide (c = 92) = false := decide_eq_false h1
  have x40a : (c == 40) = false := by rw [beq_eq_false_iff_ne]; exact h2
  have x40b : (c != 40) = true := by rw [bne_iff_ne]; exact h2
  have x40d : decide (c = 40) = false := decide_eq_false h2
  have x34a : (c == 34) = false := by rw [beq_eq_false_iff_ne]; exact h3
  have x34b : (c != 34) = true := by rw [bne_iff_ne]; exact h3
  have x34d : decide (c = 34) = false := decide_eq_false h3
  clear h h1 h2 h3
  go_enter Tryz.func184, Tryz.ntmps184
  go_wp2_with fail
  go_end0
  rw [HV.out]
  exact ⟨rfl, H.out, Touch.refl _ _⟩
theorem scsee_any {w : World} {g : Nat} (x : Sc) (c : Int) (h : Blk w g x.row 197) (hd : x.d ≤ 1000000) :
    Calls Tryz.prog 184 #[.pointer (some ⟨g, 0, none⟩), .int .u8 c] w fun e w' => e = .returned (.tuple #[]) ∧ Blk w' g (x.see c).row 197 ∧ Touch (fun k => k = g) w w' := by
  obtain ⟨q, s, d⟩ := x
  simp only at hd
  cases s with
  | true => exact see_sl h
  | false =>
    by_cases h92 : c = 92
    · cases q with
      | true => exact see_bsq h h92
      | false =>
        cases d with
        | zero => exact see_bsn h h92
        | succ d => exact see_bsd h h92 (Nat.succ_pos d)
    cases q with
    | true =>
      by_cases h34 : c = 34
      · exact see_qq h h34
      · exact see_qo h h92 h34
    | false =>
      by_cases h40 : c = 40
      · exact see_op h h40 hd
      cases d with
      | zero =>
        by_cases h34 : c = 34
        · exact see_qn h h34
        · exact see_ot h h92 h40 h34
      | succ d =>
        by_cases h41 : c = 41
        · exact see_cl h h41 (by omega)
        · exact see_in h h92 h40 h41 (by omega)
set_option maxRecDepth 100000 in
set_option maxHeartbeats 1000000 in
theorem closed_any {w : World} {g : Nat} (x : Sc) (h : Blk w g x.row 197) :
    Calls Tryz.prog 185 #[.pointer (some ⟨g, 0, none⟩)] w fun e w' => e = .returned (.bool x.closed) ∧ w = w' := by
  obtain ⟨q, s, d⟩ := x
  have k0 := h.cell 0
  have k1 := h.cell 1
  have k2 := h.cell 2
  simp [Sc.row] at k0 k1 k2
  obtain ⟨Z, hZ⟩ : ∃ Z, Z = ((d : Int) == 0) := ⟨_, rfl⟩
  have hz : ((d : Int) == 0) = Z := hZ.symm
  have HV : Hid ((⟨q, s, d⟩ : Sc).closed = (!q && (!s && Z))) := by
    have e : (d == 0) = ((d : Int) == 0) := by rw [Bool.eq_iff_iff, beq_iff_eq, beq_iff_eq]; omega
    show _ = _
    unfold Sc.closed
    rw [hZ, ← e]
  clear hZ h
  cases q <;> cases s <;> cases Z
  all_goals
    go_enter Tryz.func185, Tryz.ntmps185
    go_wp2_with fail
    go_ret
    rw [HV.out]
    exact ⟨rfl, rfl⟩
theorem see_d (x : Sc) (c : Int) : (x.see c).d ≤ x.d + 1 := by
  obtain ⟨q, s, d⟩ := x
  unfold Sc.see
  simp only
  repeat' split
  all_goals first | exact Nat.le_succ _ | exact Nat.le_refl _ | exact Nat.zero_le _ | exact Nat.le_trans (Nat.sub_le _ _) (Nat.le_succ _)
theorem bt_drop (s : ByteArray) (k : Nat) (h : k < s.size) : ∃ c : UInt8, bt s k = c.toNat ∧ s.data.toList.drop k = c :: s.data.toList.drop (k + 1) := by
  refine ⟨s[k]'h, bt_get s k h, ?_⟩
  have := List.drop_eq_getElem_cons (l := s.data.toList) (i := k) (by simpa using h)
  exact this
theorem drop_size (s : ByteArray) : s.data.toList.drop s.size = [] := List.drop_of_length_le (by simp)
set_option maxRecDepth 100000 in
set_option maxHeartbeats 2000000 in
theorem ends_any (s : ByteArray) (hs : s.size ≤ 1000000) (w : World) :
    Calls Tryz.prog 150 #[.string s] w fun e w' => e = .returned (.bool (scfin scz s.data.toList).closed) ∧ Below w.heap.size w w' := by
  obtain ⟨F, hF⟩ : ∃ F, F = scfin scz s.data.toList := ⟨_, rfl⟩
  have HF := Lib.hid hF
  rw [← hF]
  clear hF
  have hsi : (s.size : Int) ≤ 1000000 := by omega
  go_enter Tryz.func150, Tryz.ntmps150
  go_wp2_with fail
  go_loopw [7] (fun i wr => ∃ (k : Nat) (x : Sc), k ≤ s.size ∧ i = .int .i64 k ∧ scfin x (s.data.toList.drop k) = F ∧ x.d ≤ k ∧ Blk wr w.heap.size x.row 197 ∧ Below w.heap.size w wr) (fun i _ => s.size - (intOf i).toNat)
  case atStart => exact ⟨0, scz, Nat.zero_le _, rfl, HF.out.symm, Nat.le_refl _, Blk.new _ _ _, (Below.refl _ _).alloc (Nat.le_refl _) _⟩
  case round =>
    obtain ⟨k, x, hk, rfl, hx, hd, hb, hbel⟩ := hrel
    have HX := Lib.hid hx
    have HB := Lib.hid hb
    have HBE := Lib.hid hbel
    have HD := Lib.hid hd
    clear hx hb hbel
    by_cases hlt : k < s.size
    · have hix := index_bt s k hlt
      obtain ⟨c, hc, hdr⟩ := bt_drop s k hlt
      obtain ⟨b, hb⟩ : ∃ b, b = bt s k := ⟨_, rfl⟩
      rw [← hb] at hix
      have HN : Hid (scfin (x.see b) (s.data.toList.drop (k + 1)) = F) := by
        show _ = _
        rw [← HX.out, hdr, hb, hc]
        rfl
      have hk1 : decide ((k : Int) < (s.size : Int)) = true := decide_eq_true (by omega)
      clear hc hdr hb
      go_wp2_with (go_at_call 184; refine (scsee_any x b HB.out (Nat.le_trans HD.out (Nat.le_trans hk hs))).mono ?_; rintro e' w' ⟨rfl, hb', ht'⟩; have HB' := Lib.hid hb'; have HBE' := Lib.hid (HBE.out.trans (ht'.below (B := w.heap.size) (fun j _ hj => by rw [hj]; exact Nat.le_refl _) HBE.out.size)); clear hb' ht')
      go_roundw
      case rel => exact ⟨k + 1, x.see b, hlt, by go_num, HN.out, Nat.le_trans (see_d x b) (Nat.succ_le_succ HD.out), HB'.out, HBE'.out⟩
      case measure => simp [intOf]; omega
    · have hk1 : decide ((k : Int) < (s.size : Int)) = false := decide_eq_false (by omega)
      have hkn : k = s.size := by omega
      have HE : Hid (x = F) := by
        show x = F
        rw [← HX.out, hkn, drop_size]
        rfl
      clear hkn
      go_wp2_with (go_at_call 185; refine (closed_any x HB.out).mono ?_; rintro e' w' ⟨rfl, rfl⟩)
      go_ret
      rw [HE.out]
      exact ⟨rfl, HBE.out⟩
end Go.Proofs.YtcpjkemjpgggcaaGreatDoor
-- HostP
namespace Go.Proofs.YtcpjkemjpgggcaaGreatDoor
open Go.RowKit
def hexI (c : Int) : Bool := decide (48 ≤ c ∧ c ≤ 57 ∨ 65 ≤ c ∧ c ≤ 70 ∨ 97 ≤ c ∧ c ≤ 102)
def signI (c : Int) : Bool := decide (c = 45 ∨ c = 46 ∨ c = 95 ∨ c = 126 ∨ c = 33 ∨ c = 36 ∨ c = 38 ∨ c = 39 ∨ c = 40 ∨ c = 41 ∨ c = 42 ∨ c = 43 ∨ c = 44 ∨ c = 59 ∨ c = 61)
def plainI (c : Int) : Bool := decide (48 ≤ c ∧ c ≤ 57 ∨ 65 ≤ c ∧ c ≤ 90 ∨ 97 ≤ c ∧ c ≤ 122) || signI c
def hxB (b : UInt8) : Bool := hexI b.toNat
def plainB (b : UInt8) : Bool := plainI b.toNat
def litI (c : Int) : Bool := hexI c || decide (c = 58 ∨ c = 46)
def litB (b : UInt8) : Bool := litI b.toNat
/-- A name but a literal, octet by octet: so many digits are owed. -/
def regS : Nat → List UInt8 → Bool
  | k, [] => k == 0
  | 0, c :: t => if c = 37 then regS 2 t else if plainB c = true then regS 0 t else false
  | k + 1, c :: t => if hxB c = true then regS k t else false
def regP (l : List UInt8) : Bool := !l.isEmpty && regS 0 l
/-- How many octets of a name stand at the beginning; none: what a % begins is wrong. -/
def regF : List UInt8 → Option Nat
  | [] => some 0
  | c :: t => if c = 37 then
      (match t with
       | a :: b :: r => if hxB a = true ∧ hxB b = true then (regF r).map (· + 3) else none
       | _ => none)
    else if plainB c = true then (regF t).map (· + 1) else some 0
/-- Is a text a literal? -/
def litP (l : List UInt8) : Bool :=
  match l with
  | [] => false
  | c :: t => c == 91 && (t.getLast? == some 93 && (!t.dropLast.isEmpty && t.dropLast.all litB))
def litN (l : List UInt8) : Nat := (l.takeWhile litB).length
/-- How many octets the name has; 0: there is none. -/
def nameN (l : List UInt8) : Nat :=
  match l with
  | [] => 0
  | c :: t => if c = 91 then (if litN t = 0 then 0 else if t[litN t]? = some 93 then litN t + 2 else 0) else (regF (c :: t)).getD 0
/-- What the reference answers: octets of the name, the port, the error. -/
def hostR (l : List UInt8) : Nat × Int × Int :=
  if l.isEmpty then (0, 0, 2)
  else if nameN l = 0 then (0, 0, 3)
  else if nameN l = l.length then (l.length, 80, 0)
  else if l[nameN l]? ≠ some 58 then (0, 0, 3)
  else if (numRes (l.drop (nameN l + 1)) 10 65535).2 = 5 then (0, 0, 5)
  else if (numRes (l.drop (nameN l + 1)) 10 65535).2 ≠ 0 then (0, 0, 3)
  else (nameN l, (numRes (l.drop (nameN l + 1)) 10 65535).1, 0)
/-- What the program answers, its last colon at I, its first bracket at J. -/
def hostP (l : List UInt8) (I J : Int) : Nat × Int × Int :=
  if l.isEmpty then (0, 0, 2)
  else if I < J ∨ I < 0 then (if (regP l || litP l) = true then (l.length, 80, 0) else (0, 0, 3))
  else if (regP (l.take I.toNat) || litP (l.take I.toNat)) = true then
    (if (numRes (l.drop (I.toNat + 1)) 10 65535).2 = 5 then (0, 0, 5)
     else if (numRes (l.drop (I.toNat + 1)) 10 65535).2 ≠ 0 then (0, 0, 3)
     else (I.toNat, (numRes (l.drop (I.toNat + 1)) 10 65535).1, 0))
  else (0, 0, 3)
theorem regS_bad {c : UInt8} (h1 : hxB c = false) (h2 : plainB c = false) (h3 : c ≠ 37) : ∀ (l : List UInt8) (k : Nat), c ∈ l → regS k l = false
  | [], _, h => by cases h
  | b :: t, 0, h => by
    rw [regS]
    rcases List.mem_cons.1 h with e | h
    · subst e
      rw [if_neg h3, if_neg (by rw [h2]; decide)]
    · split
      · exact regS_bad h1 h2 h3 t 2 h
      · split
        · exact regS_bad h1 h2 h3 t 0 h
        · rfl
  | b :: t, k + 1, h => by
    rw [regS]
    rcases List.mem_cons.1 h with e | h
    · subst e
      rw [if_neg (by rw [h1]; decide)]
    · split
      · exact regS_bad h1 h2 h3 t k h
      · rfl
theorem regF_some : ∀ (m : Nat) (l : List UInt8) (n : Nat), l.length ≤ m → regF l = some n → n ≤ l.length ∧ regS 0 (l.take n) = true
  | _, [], n, _, h => by rw [regF] at h; cases h; exact ⟨Nat.le_refl _, rfl⟩
  | 0, c :: t, _, hm, _ => by simp at hm
  | m + 1, c :: t, n, hm, h => by
    have ht : t.length ≤ m := by simpa using hm
    rw [regF.eq_def] at h
    simp only at h
    by_cases h37 : c = 37
    · rw [if_pos h37] at h
      match t, ht, h with
      | a :: b :: r, ht, h =>
        simp only at h
        by_cases hh : hxB a = true ∧ hxB b = true
        · rw [if_pos hh] at h
          cases hr : regF r with
          | none => rw [hr] at h; cases h
          | some q =>
            rw [hr] at h
            cases h
            have := regF_some m r q (by simp at ht; omega) hr
            refine ⟨by simp only [List.length_cons]; omega, ?_⟩
            show regS 0 (c :: a :: b :: r.take q) = true
            rw [regS, if_pos h37, regS, if_pos hh.1, regS, if_pos hh.2]
            exact this.2
        · rw [if_neg hh] at h; cases h
      | [], _, h => cases h
      | [_], _, h => cases h
    · rw [if_neg h37] at h
      by_cases hp : plainB c = true
      · rw [if_pos hp] at h
        cases hr : regF t with
        | none => rw [hr] at h; cases h
        | some q =>
          rw [hr] at h
          cases h
          have := regF_some m t q ht hr
          refine ⟨by simp only [List.length_cons]; omega, ?_⟩
          show regS 0 (c :: t.take q) = true
          rw [regS, if_neg h37, if_pos hp]
          exact this.2
      · rw [if_neg hp] at h
        cases h
        exact ⟨Nat.zero_le _, rfl⟩
theorem regF_of : ∀ (m : Nat) (p q : List UInt8), p.length ≤ m → regS 0 p = true → (∀ c, q.head? = some c → plainB c = false ∧ c ≠ 37) → regF (p ++ q) = some p.length
  | _, [], q, _, _, hq => by
    cases q with
    | nil => rw [List.append_nil, regF]; rfl
    | cons c t =>
      have := hq c rfl
      rw [List.nil_append, regF.eq_def]
      simp only
      rw [if_neg this.2, if_neg (by rw [this.1]; decide)]
      rfl
  | 0, c :: t, _, hm, _, _ => by simp at hm
  | m + 1, c :: t, q, hm, h, hq => by
    have ht : t.length ≤ m := by simpa using hm
    rw [regS] at h
    rw [List.cons_append, regF.eq_def]
    simp only
    by_cases h37 : c = 37
    · rw [if_pos h37] at h ⊢
      match t, ht, h with
      | [], _, h => rw [regS] at h; cases h
      | [a], _, h =>
        rw [regS] at h
        split at h
        · rw [regS] at h; cases h
        · cases h
      | a :: b :: r, ht, h =>
        rw [regS] at h
        split at h
        · rename_i ha
          rw [regS] at h
          split at h
          · rename_i hb
            have := regF_of m r q (by simp at ht; omega) h hq
            simp only [List.cons_append]
            rw [if_pos ⟨ha, hb⟩, this]
            rfl
          · cases h
        · cases h
    · rw [if_neg h37] at h ⊢
      split at h
      · rename_i hp
        rw [if_pos hp, regF_of m t q ht h hq]
        rfl
      · cases h
theorem takeWhile_app {α : Type} {f : α → Bool} : ∀ (p q : List α), (∀ b ∈ p, f b = true) → (∀ c, q.head? = some c → f c = false) → (p ++ q).takeWhile f = p
  | [], q, _, hq => by
    cases q with
    | nil => rfl
    | cons c t => rw [List.nil_append, List.takeWhile_cons, hq c rfl]; rfl
  | b :: p, q, hp, hq => by
    rw [List.cons_append, List.takeWhile_cons, hp b (by simp), if_pos rfl, takeWhile_app p q (fun x hx => hp x (by simp [hx])) hq]
theorem last_app {l : List UInt8} {a : UInt8} (h : l.getLast? = some a) : l.dropLast ++ [a] = l := by
  rcases List.eq_nil_or_concat l with rfl | ⟨p, b, rfl⟩
  · cases h
  · rw [List.concat_eq_append] at h ⊢
    have : b = a := by simpa using h
    rw [List.dropLast_concat, this]
theorem litP_of {l : List UInt8} (h : litP l = true) : ∃ t, l = 91 :: (t ++ [93]) ∧ t ≠ [] ∧ ∀ b ∈ t, litB b = true := by
  cases l with
  | nil => cases h
  | cons c t =>
    unfold litP at h
    simp only [Bool.and_eq_true, beq_iff_eq, Bool.not_eq_true', List.all_eq_true] at h
    obtain ⟨rfl, h1, h2, h3⟩ := h
    refine ⟨t.dropLast, ?_, ?_, h3⟩
    · rw [last_app h1]
    · intro e
      rw [e] at h2
      exact absurd h2 (by decide)
theorem litP_mk {t : List UInt8} (h1 : t ≠ []) (h2 : ∀ b ∈ t, litB b = true) : litP (91 :: (t ++ [93])) = true := by
  unfold litP
  simp only [Bool.and_eq_true, beq_iff_eq, Bool.not_eq_true', List.all_eq_true]
  refine ⟨trivial, by simp, ?_, ?_⟩
  · rw [List.dropLast_concat]
    cases t with
    | nil => exact absurd rfl h1
    | cons _ _ => rfl
  · rw [List.dropLast_concat]
    exact h2
theorem nameN_some {l : List UInt8} {n : Nat} (h : nameN l = n) (h0 : n ≠ 0) : n ≤ l.length ∧ (regP (l.take n) || litP (l.take n)) = true := by
  cases l with
  | nil => exact absurd h.symm h0
  | cons c t =>
    unfold nameN at h
    simp only at h
    by_cases h91 : c = 91
    · rw [if_pos h91] at h
      split at h
      · exact absurd h.symm h0
      rename_i hl0
      split at h
      · rename_i hl1
        subst h
        have hlt : litN t < t.length := by
          rcases Nat.lt_or_ge (litN t) t.length with hh | hh
          · exact hh
          · rw [List.getElem?_eq_none hh] at hl1; cases hl1
        refine ⟨by simp only [List.length_cons]; omega, ?_⟩
        rw [Bool.or_eq_true]
        right
        have e : (c :: t).take (litN t + 2) = 91 :: (t.takeWhile litB ++ [93]) := by
          rw [h91, List.take_succ_cons, List.take_add_one, hl1]
          congr 2
          unfold litN
          exact (List.prefix_iff_eq_take.1 (List.takeWhile_prefix _)).symm
        rw [e]
        refine litP_mk (fun e => hl0 (by unfold litN; rw [e]; rfl)) (fun b hb => ?_)
        have := List.all_takeWhile (p := litB) (l := t)
        rw [List.all_eq_true] at this
        exact this b hb
      · exact absurd h.symm h0
    · rw [if_neg h91] at h
      cases hr : regF (c :: t) with
      | none => rw [hr] at h; exact absurd h.symm h0
      | some q =>
        rw [hr] at h
        have hq : q = n := h
        subst hq
        have := regF_some _ _ _ (Nat.le_refl _) hr
        refine ⟨this.1, ?_⟩
        rw [Bool.or_eq_true]
        left
        unfold regP
        rw [this.2, Bool.and_true]
        cases hq : q with
        | zero => exact absurd hq h0
        | succ _ => rfl
theorem nameN_of {p q : List UInt8} (h : (regP p || litP p) = true) (hq : ∀ c, q.head? = some c → c = 58) : nameN (p ++ q) = p.length ∧ p.length ≠ 0 := by
  rw [Bool.or_eq_true] at h
  rcases h with h | h
  · unfold regP at h
    rw [Bool.and_eq_true] at h
    cases p with
    | nil => exact absurd h.1 (by decide)
    | cons c t =>
      have h91 : c ≠ 91 := by
        rintro rfl
        have := regS_bad (c := 91) (by decide) (by decide) (by decide) (91 :: t) 0 (by simp)
        rw [this] at h
        exact absurd h.2 (by decide)
      refine ⟨?_, by simp⟩
      show (if c = 91 then _ else (regF ((c :: t) ++ q)).getD 0) = _
      rw [if_neg h91, regF_of _ (c :: t) q (Nat.le_refl _) h.2 (fun d hd => by rw [hq d hd]; exact ⟨by decide, by decide⟩)]
      rfl
  · obtain ⟨t, rfl, h1, h2⟩ := litP_of h
    refine ⟨?_, by simp⟩
    have e : litN (t ++ [93] ++ q) = t.length := by
      unfold litN
      rw [List.append_assoc, takeWhile_app t ([93] ++ q) h2 (fun c hc => by cases hc; decide)]
    show nameN (91 :: (t ++ [93] ++ q)) = _
    unfold nameN
    simp only
    rw [if_pos trivial, e, if_neg (fun (e : t.length = 0) => h1 (List.eq_nil_of_length_eq_zero e)), if_pos (by rw [List.append_assoc, List.getElem?_append_right (Nat.le_refl _), Nat.sub_self]; rfl)]
    simp
theorem numRes_bad {l : List UInt8} {c : UInt8} (h : c ∈ l) (hc : digB 10 c = false) (most : Int) : numRes l 10 most = (0, 3) := by
  unfold numRes
  have h1 : l.isEmpty = false := by cases l with
    | nil => cases h
    | cons _ _ => rfl
  have h2 : l.all (digB 10) = false := by
    rw [List.all_eq_false]
    exact ⟨c, h, by rw [hc]; decide⟩
  rw [h1, h2]
  rfl
theorem reg_mem {p : List UInt8} (h : regP p = true) {c : UInt8} (h1 : hxB c = false) (h2 : plainB c = false) (h3 : c ≠ 37) : c ∉ p := by
  intro hc
  unfold regP at h
  rw [regS_bad h1 h2 h3 p 0 hc, Bool.and_false] at h
  cases h
/-- The two ways to read a host come to the same. -/
theorem host_law (l : List UInt8) (I J : Int) (hI : (I = -1 ∧ ∀ k : Nat, l[k]? ≠ some 58) ∨ ∃ i : Nat, I = i ∧ l[i]? = some 58 ∧ ∀ k : Nat, i < k → l[k]? ≠ some 58)
    (hJ : (J = -1 ∧ ∀ k : Nat, l[k]? ≠ some 93) ∨ ∃ j : Nat, J = j ∧ l[j]? = some 93 ∧ ∀ k : Nat, k < j → l[k]? ≠ some 93) : hostP l I J = hostR l := by
  unfold hostP hostR
  cases he : l.isEmpty
  rotate_left
  · rfl
  simp only [Bool.false_eq_true, if_false]
  by_cases hno : I < J ∨ I < 0
  · rw [if_pos hno]
    by_cases hn : (regP l || litP l) = true
    · rw [if_pos hn]
      have := nameN_of (q := []) hn (fun c hc => by cases hc)
      rw [List.append_nil] at this
      rw [if_neg (by rw [this.1]; exact this.2), if_pos this.1]
    · rw [if_neg hn]
      by_cases h0 : nameN l = 0
      · rw [if_pos h0]
      rw [if_neg h0]
      obtain ⟨hle, hok⟩ := nameN_some rfl h0
      by_cases hlen : nameN l = l.length
      · rw [hlen, List.take_length] at hok
        exact absurd hok hn
      rw [if_neg hlen]
      by_cases h58 : l[nameN l]? = some 58
      · rw [if_neg (by rw [h58]; simp)]
        rcases hI with ⟨_, hI⟩ | ⟨i, rfl, hi, hI⟩
        · exact absurd h58 (hI _)
        have hni : nameN l ≤ i := by
          rcases Nat.lt_or_ge i (nameN l) with h | h
          · exact absurd h58 (hI _ h)
          · exact h
        rcases hJ with ⟨rfl, _⟩ | ⟨j, rfl, hj, hJ⟩
        · omega
        have hij : i < j := by omega
        have hbad : (93 : UInt8) ∈ l.drop (nameN l + 1) := by
          rw [List.mem_iff_getElem?]
          exact ⟨j - (nameN l + 1), by rw [List.getElem?_drop, show nameN l + 1 + (j - (nameN l + 1)) = j by omega]; exact hj⟩
        rw [numRes_bad hbad (by decide)]
        rfl
      · rw [if_pos h58]
  · rw [if_neg hno]
    rcases hI with ⟨rfl, _⟩ | ⟨i, rfl, hi, hI⟩
    · omega
    have hil : i < l.length := by
      rcases Nat.lt_or_ge i l.length with h | h
      · exact h
      · rw [List.getElem?_eq_none h] at hi; cases hi
    rw [Int.toNat_natCast]
    have hsp : l = l.take i ++ l.drop i := (List.take_append_drop i l).symm
    have hhd : (l.drop i).head? = some 58 := by rw [List.head?_drop]; exact hi
    by_cases hn : (regP (l.take i) || litP (l.take i)) = true
    · rw [if_pos hn]
      have := nameN_of (q := l.drop i) hn (fun c hc => by rw [hhd] at hc; exact (Option.some.inj hc).symm)
      rw [← hsp, List.length_take, Nat.min_eq_left (by omega)] at this
      rw [this.1, if_neg this.2, if_neg (by omega : ¬ i = l.length), if_neg (show ¬ (l[i]? ≠ some 58) by rw [hi]; simp)]
    · rw [if_neg hn]
      by_cases h0 : nameN l = 0
      · rw [if_pos h0]
      rw [if_neg h0]
      obtain ⟨hle, hok⟩ := nameN_some rfl h0
      by_cases hlen : nameN l = l.length
      · exfalso
        rw [hlen, List.take_length, Bool.or_eq_true] at hok
        rcases hok with h | h
        · exact reg_mem h (c := 58) (by decide) (by decide) (by decide) (List.mem_iff_getElem?.2 ⟨i, hi⟩)
        · obtain ⟨t, rfl, h1, h2⟩ := litP_of h
          have hlast : (91 :: (t ++ [93]))[t.length + 1]? = some (93 : UInt8) := by simp
          have hne : i ≠ t.length + 1 := by
            rintro rfl
            rw [hlast] at hi
            exact absurd (Option.some.inj hi) (by decide)
          have hit : i < t.length + 1 := by simp at hil; omega
          rcases hJ with ⟨rfl, hJ⟩ | ⟨j, rfl, hj, hJ⟩
          · exact hJ _ hlast
          have hij : j ≤ i := by omega
          cases j with
          | zero => simp at hj
          | succ j =>
            rw [List.getElem?_cons_succ, List.getElem?_append_left (by omega)] at hj
            have := h2 93 (List.mem_iff_getElem?.2 ⟨j, hj⟩)
            exact absurd this (by decide)
      rw [if_neg hlen]
      by_cases h58 : l[nameN l]? = some 58
      · rw [if_neg (by rw [h58]; simp)]
        have hni : nameN l ≤ i := by
          rcases Nat.lt_or_ge i (nameN l) with h | h
          · exact absurd h58 (hI _ h)
          · exact h
        rcases Nat.lt_or_ge (nameN l) i with hlt | hge
        · have hbad : (58 : UInt8) ∈ l.drop (nameN l + 1) := by
            rw [List.mem_iff_getElem?]
            exact ⟨i - (nameN l + 1), by rw [List.getElem?_drop, show nameN l + 1 + (i - (nameN l + 1)) = i by omega]; exact hi⟩
          rw [numRes_bad hbad (by decide)]
          rfl
        · have : nameN l = i := by omega
          rw [this] at hok
          exact absurd hok hn
      · rw [if_pos h58]
end Go.Proofs.YtcpjkemjpgggcaaGreatDoor
-- NumberW
namespace Go.Proofs.YtcpjkemjpgggcaaGreatDoor
open Go.RowKit
def strSize : Value → Nat
  | .string t => t.size
  | _ => 0
theorem index_at (s : ByteArray) (k : Nat) (h : k < s.size) {b : Int} (hb : b = bt s k) (W : World) : (Instr.index 9 (.string s) (.int .i64 (k : Int))).run Tryz.prog W = .ok (.int .u8 b) W := by rw [hb]; exact index_bt s k h W
set_option maxRecDepth 100000 in
set_option maxHeartbeats 4000000 in
theorem rnumber_digs (s : ByteArray) (h1 : 1 ≤ s.size) (h18 : s.size ≤ 18) (hd : digs s) (most : Int) (hm0 : 0 ≤ most) (hm : most ≤ 9223372036854775807) (n e : Int) (hr : (if numV 10 s.data.toList ≤ most then (numV 10 s.data.toList, (0 : Int)) else (0, 5)) = (n, e)) (w : World) :
    Calls Tryz.prog 84 #[.string s, .int .i64 10, .int .i64 most] w fun r w' => r = .returned (.tuple #[.int .i64 n, .int .i64 e]) ∧ w = w' := by
  have HR := Lib.hid hr
  have HD := Lib.hid hd
  clear hr hd
  have hsz : (1 : Int) ≤ s.size := by omega
  have hsz2 : (s.size : Int) ≤ 18 := by omega
  have hz : ((s.size : Int) == 0) = false := by rw [beq_eq_false_iff_ne]; omega
  go_enter Tryz.func84, Tryz.ntmps84
  go_wp2_with fail
  go_loop [8] (fun i => ∃ k : Nat, k ≤ s.size ∧ i = .int .i64 k ∧ ∀ j : Nat, j < k → 48 ≤ bt s j) (fun i => s.size - (intOf i).toNat)
  case atStart => exact ⟨0, by omega, rfl, fun j hj => by omega⟩
  case round =>
    obtain ⟨k, hk, rfl, _⟩ := hrel
    by_cases hlt : k < s.size
    · obtain ⟨b, hb⟩ : ∃ b, b = bt s k := ⟨_, rfl⟩
      have hix := index_at s k hlt hb
      have hdk := HD.out k hlt
      rw [← hb] at hdk
      have hb1 := hdk.1
      have hb2 := hdk.2
      clear hb hdk
      go_wp2_with (go_at_call 126; refine (rvalue02_dig b hb1 hb2 _).mono ?_; rintro e' w' ⟨rfl, rfl⟩)
      go_round
      case rel => exact ⟨k + 1, by omega, by go_num, fun j hj => (HD.out j (by omega)).1⟩
      case measure => simp [intOf]; omega
    · obtain rfl : k = s.size := by omega
      go_wp2_with fail
      go_loop [0] (fun v => ∃ t : ByteArray, v = .string t ∧ 1 ≤ t.size ∧ t.size ≤ 18 ∧ digs t ∧ numV 10 t.data.toList = numV 10 s.data.toList) (fun v => strSize v)
      case atStart => exact ⟨s, rfl, h1, h18, HD.out, rfl⟩
      case round =>
        obtain ⟨t, rfl, ht1, ht18, htd, htn⟩ := hrel
        have TD := Lib.hid htd
        have TN := Lib.hid htn
        clear htd htn
        have hts : (1 : Int) ≤ t.size := by omega
        have hts2 : (t.size : Int) ≤ 18 := by omega
        obtain ⟨b, hb⟩ : ∃ b, b = bt t 0 := ⟨_, rfl⟩
        have hix : ∀ W : World, (Instr.index 9 (.string t) (.int .i64 0)).run Tryz.prog W = .ok (.int .u8 b) W := index_at t 0 (by omega) hb
        have HB := Lib.hid hb
        clear hb
        by_cases hgo : 1 < t.size ∧ b = 48
        · obtain ⟨hg1, rfl⟩ := hgo
          have hg2 : (1 : Int) < t.size := by omega
          go_wp2_with fail
          go_round
          case rel => exact ⟨t.extract 1 t.size, by simp, by rw [tail_size]; omega, by rw [tail_size]; omega, tail_digs TD.out, by rw [tail_num (by omega) HB.out.symm]; exact TN.out⟩
          case measure => simp [strSize]; omega
        · have hstop : t.size = 1 ∨ (1 < t.size ∧ b ≠ 48) := by
            rcases (by omega : t.size = 1 ∨ (1 < t.size)) with h | h
            · exact .inl h
            · exact .inr ⟨h, fun h' => hgo ⟨h, h'⟩⟩
          clear hgo
          have h19 : decide ((19 : Int) < t.size) = false := by rw [decide_eq_false_iff_not]; omega
          rcases hstop with hone | ⟨hmore, hne⟩
          · have ho : (t.size : Int) = 1 := by omega
            go_wp2_with fail
            go_loop [9, 10] (fun nv iv => ∃ (k : Nat) (m : Int), nv = .int .u64 m ∧ iv = .int .i64 k ∧ k ≤ t.size ∧ m = numV 10 (t.data.toList.take k)) (fun _ iv => t.size - (intOf iv).toNat)
            case atStart => exact ⟨0, 0, rfl, rfl, by omega, rfl⟩
            case round =>
              obtain ⟨k, m, rfl, rfl, hk, hmv⟩ := hrel
              have HM := Lib.hid hmv
              clear hmv
              by_cases hlt : k < t.size
              · have hsm := numV_small t TD.out k (by omega) (by omega)
                rw [← HM.out] at hsm
                have hsm0 := hsm.1
                have hsm1 := hsm.2
                obtain ⟨c, hc⟩ : ∃ c, c = bt t k := ⟨_, rfl⟩
                have hix2 := index_at t k hlt hc
                have hdk := TD.out k hlt
                rw [← hc] at hdk
                have hc1 := hdk.1
                have hc2 := hdk.2
                have HC := Lib.hid hc
                clear hc hdk hsm
                go_wp2_with (go_at_call 126; refine (rvalue02_dig c hc1 hc2 _).mono ?_; rintro e' w' ⟨rfl, rfl⟩)
                go_round
                case rel => exact ⟨k + 1, m * 10 + (c - 48), by go_num, by go_num, by omega, by rw [numV_step t k hlt TD.out, ← HM.out, ← HC.out]⟩
                case measure => simp [intOf]; omega
              · obtain rfl : k = t.size := by omega
                have hmm : Hid (m = numV 10 s.data.toList) := by show m = _; rw [HM.out, take_size, TN.out]
                have hsm := numV_range t TD.out t.size (by omega)
                rw [← HM.out] at hsm
                have hsm0 := hsm.1
                have hp : (10 : Nat) ^ t.size ≤ 10 ^ 18 := Nat.pow_le_pow_right (by decide) ht18
                have hp2 : (10 : Nat) ^ 18 = 1000000000000000000 := by decide
                have hsm1 : m < 1000000000000000000 := by omega
                clear hsm hp hp2
                by_cases hle : m ≤ most
                · have hK : Hid ((m, 0) = (n, e)) := by show (m, 0) = (n, e); rw [← HR.out, if_pos (by rw [← hmm.out]; exact hle), hmm.out]
                  have hgt : decide (most < m) = false := by rw [decide_eq_false_iff_not]; omega
                  go_wp2_with fail
                  go_ret2
                  obtain ⟨rfl, rfl⟩ := Prod.mk.inj hK.out
                  exact ⟨rfl, rfl⟩
                · have hK : Hid ((0, 5) = (n, e)) := by show (0, 5) = (n, e); rw [← HR.out, if_neg (by rw [← hmm.out]; exact hle)]
                  have hgt : most < m := by omega
                  go_wp2_with fail
                  go_ret2
                  obtain ⟨rfl, rfl⟩ := Prod.mk.inj hK.out
                  exact ⟨rfl, rfl⟩
          · have hg2 : (1 : Int) < t.size := by omega
            have hne' : (b == 48) = false := by simpa using hne
            go_wp2_with fail
            go_loop [9, 10] (fun nv iv => ∃ (k : Nat) (m : Int), nv = .int .u64 m ∧ iv = .int .i64 k ∧ k ≤ t.size ∧ m = numV 10 (t.data.toList.take k)) (fun _ iv => t.size - (intOf iv).toNat)
            case atStart => exact ⟨0, 0, rfl, rfl, by omega, rfl⟩
            case round =>
              obtain ⟨k, m, rfl, rfl, hk, hmv⟩ := hrel
              have HM := Lib.hid hmv
              clear hmv
              by_cases hlt : k < t.size
              · have hsm := numV_small t TD.out k (by omega) (by omega)
                rw [← HM.out] at hsm
                have hsm0 := hsm.1
                have hsm1 := hsm.2
                obtain ⟨c, hc⟩ : ∃ c, c = bt t k := ⟨_, rfl⟩
                have hix2 := index_at t k hlt hc
                have hdk := TD.out k hlt
                rw [← hc] at hdk
                have hc1 := hdk.1
                have hc2 := hdk.2
                have HC := Lib.hid hc
                clear hc hdk hsm
                go_wp2_with (go_at_call 126; refine (rvalue02_dig c hc1 hc2 _).mono ?_; rintro e' w' ⟨rfl, rfl⟩)
                go_round
                case rel => exact ⟨k + 1, m * 10 + (c - 48), by go_num, by go_num, by omega, by rw [numV_step t k hlt TD.out, ← HM.out, ← HC.out]⟩
                case measure => simp [intOf]; omega
              · obtain rfl : k = t.size := by omega
                have hmm : Hid (m = numV 10 s.data.toList) := by show m = _; rw [HM.out, take_size, TN.out]
                have hsm := numV_range t TD.out t.size (by omega)
                rw [← HM.out] at hsm
                have hsm0 := hsm.1
                have hp : (10 : Nat) ^ t.size ≤ 10 ^ 18 := Nat.pow_le_pow_right (by decide) ht18
                have hp2 : (10 : Nat) ^ 18 = 1000000000000000000 := by decide
                have hsm1 : m < 1000000000000000000 := by omega
                clear hsm hp hp2
                by_cases hle : m ≤ most
                · have hK : Hid ((m, 0) = (n, e)) := by show (m, 0) = (n, e); rw [← HR.out, if_pos (by rw [← hmm.out]; exact hle), hmm.out]
                  have hgt : decide (most < m) = false := by rw [decide_eq_false_iff_not]; omega
                  go_wp2_with fail
                  go_ret2
                  obtain ⟨rfl, rfl⟩ := Prod.mk.inj hK.out
                  exact ⟨rfl, rfl⟩
                · have hK : Hid ((0, 5) = (n, e)) := by show (0, 5) = (n, e); rw [← HR.out, if_neg (by rw [← hmm.out]; exact hle)]
                  have hgt : most < m := by omega
                  go_wp2_with fail
                  go_ret2
                  obtain ⟨rfl, rfl⟩ := Prod.mk.inj hK.out
                  exact ⟨rfl, rfl⟩
end Go.Proofs.YtcpjkemjpgggcaaGreatDoor
-- NumR
namespace Go.Proofs.YtcpjkemjpgggcaaGreatDoor
open Go.RowKit
def rvD (r : Int) : Int := if 48 ≤ r ∧ r ≤ 57 then r - 48 else if 65 ≤ r ∧ r ≤ 70 then r - 55 else if 97 ≤ r ∧ r ≤ 102 then r - 87 else 99
set_option maxRecDepth 100000 in
theorem rvalue02_any (r : Int) (h0 : 0 ≤ r) (h1 : r ≤ 255) (w : World) : Calls Tryz.prog 126 #[.int .u8 r] w fun e w' => e = .returned (.int .i64 (rvD r)) ∧ w = w' := by
  rcases (by omega : r < 48 ∨ (48 ≤ r ∧ r ≤ 57) ∨ (57 < r ∧ r < 65) ∨ (65 ≤ r ∧ r ≤ 70) ∨ (70 < r ∧ r < 97) ∨ (97 ≤ r ∧ r ≤ 102) ∨ 102 < r) with h | ⟨h, h'⟩ | ⟨h, h'⟩ | ⟨h, h'⟩ | ⟨h, h'⟩ | ⟨h, h'⟩ | h
  · have HV : Hid (rvD r = 99) := by show rvD r = 99; unfold rvD; repeat' split; all_goals omega
    go_enter Tryz.func126, Tryz.ntmps126
    go_wp2_with fail
    go_ret
    rw [HV.out]
    exact ⟨rfl, rfl⟩
  · have HV : Hid (rvD r = r - 48) := by show rvD r = r - 48; unfold rvD; repeat' split; all_goals omega
    go_enter Tryz.func126, Tryz.ntmps126
    go_wp2_with fail
    go_ret
    rw [HV.out]
    exact ⟨rfl, rfl⟩
  · have HV : Hid (rvD r = 99) := by show rvD r = 99; unfold rvD; repeat' split; all_goals omega
    go_enter Tryz.func126, Tryz.ntmps126
    go_wp2_with fail
    go_ret
    rw [HV.out]
    exact ⟨rfl, rfl⟩
  · have HV : Hid (rvD r = r - 55) := by show rvD r = r - 55; unfold rvD; repeat' split; all_goals omega
    go_enter Tryz.func126, Tryz.ntmps126
    go_wp2_with fail
    go_ret
    rw [HV.out]
    exact ⟨rfl, rfl⟩
  · have HV : Hid (rvD r = 99) := by show rvD r = 99; unfold rvD; repeat' split; all_goals omega
    go_enter Tryz.func126, Tryz.ntmps126
    go_wp2_with fail
    go_ret
    rw [HV.out]
    exact ⟨rfl, rfl⟩
  · have HV : Hid (rvD r = r - 87) := by show rvD r = r - 87; unfold rvD; repeat' split; all_goals omega
    go_enter Tryz.func126, Tryz.ntmps126
    go_wp2_with fail
    go_ret
    rw [HV.out]
    exact ⟨rfl, rfl⟩
  · have HV : Hid (rvD r = 99) := by show rvD r = 99; unfold rvD; repeat' split; all_goals omega
    go_enter Tryz.func126, Tryz.ntmps126
    go_wp2_with fail
    go_ret
    rw [HV.out]
    exact ⟨rfl, rfl⟩
theorem rvD_dig {r : Int} (h0 : 0 ≤ r) (h1 : r ≤ 255) : (rvD r < 10 ↔ (48 ≤ r ∧ r ≤ 57)) ∧ (0 ≤ digV r ∧ digV r < 10 ↔ (48 ≤ r ∧ r ≤ 57)) := by
  unfold rvD digV
  constructor
  · repeat' split
    all_goals omega
  · repeat' split
    all_goals omega
theorem numV_mono (s : ByteArray) (hd : digs s) (j : Nat) : ∀ (k : Nat), j ≤ k → k ≤ s.size → numV 10 (s.data.toList.take j) ≤ numV 10 (s.data.toList.take k)
  | 0, h, _ => by
    have : j = 0 := by omega
    subst this
    exact Int.le_refl _
  | k + 1, h, hk => by
    rcases (by omega : j = k + 1 ∨ j ≤ k) with e | h2
    · rw [e]; exact Int.le_refl _
    · have h3 := numV_mono s hd j k h2 (by omega)
      have h4 := numV_range s hd k (by omega)
      have h5 := hd k (by omega)
      rw [numV_step s k (by omega) hd]
      omega
theorem numV_firstK (s : ByteArray) (hd : digs s) (h0 : 0 < s.size) (hb : 49 ≤ bt s 0) : ∀ k : Nat, k + 1 ≤ s.size → ((10 ^ k : Nat) : Int) ≤ numV 10 (s.data.toList.take (k + 1))
  | 0, h => by
    rw [numV_step s 0 h0 hd, List.take_zero]
    show (1 : Int) ≤ 0 * 10 + (bt s 0 - 48)
    omega
  | k + 1, h => by
    have h1 := numV_firstK s hd h0 hb k (by omega)
    have h2 := hd (k + 1) (by omega)
    rw [numV_step s (k + 1) (by omega) hd, Nat.pow_succ]
    omega
theorem numV_first (s : ByteArray) (hd : digs s) (h0 : 0 < s.size) (hb : 49 ≤ bt s 0) : ((10 ^ (s.size - 1) : Nat) : Int) ≤ numV 10 s.data.toList := by
  have := numV_firstK s hd h0 hb (s.size - 1) (by omega)
  rw [show s.size - 1 + 1 = s.size by omega, take_size] at this
  exact this
theorem digs_all {s : ByteArray} (hd : digs s) : s.data.toList.all (digB 10) = true := by
  rw [List.all_eq_true]
  intro b hb
  obtain ⟨j, hj, e⟩ := List.getElem_of_mem hb
  have hj' : j < s.size := by simpa using hj
  have h1 := hd j hj'
  rw [bt_get s j hj'] at h1
  have h2 : s.data.toList[j] = s[j] := rfl
  rw [h2] at e
  rw [e] at h1
  unfold digB
  rw [digV_dig h1.1 h1.2, decide_eq_true_eq]
  omega
theorem ne_empty {s : ByteArray} (h : 1 ≤ s.size) : s.data.toList.isEmpty = false := by
  rw [List.isEmpty_eq_false_iff]
  intro e
  have : s.data.toList.length = s.size := by simp
  rw [e] at this
  simp at this
  omega
theorem numRes_long {s : ByteArray} (hd : digs s) (h1 : 1 ≤ s.size) {most : Int} (h : most < numV 10 s.data.toList) : numRes s.data.toList 10 most = (0, 5) := by
  unfold numRes
  rw [ne_empty h1, digs_all hd, if_neg (by decide), if_neg (by decide), if_neg (by omega)]
theorem numRes_in {s : ByteArray} (hd : digs s) (h1 : 1 ≤ s.size) {most : Int} (h : numV 10 s.data.toList ≤ most) : numRes s.data.toList 10 most = (numV 10 s.data.toList, 0) := by
  unfold numRes
  rw [ne_empty h1, digs_all hd, if_neg (by decide), if_neg (by decide), if_pos h]
theorem numRes_form {s : ByteArray} (h1 : 1 ≤ s.size) {k : Nat} (hk : k < s.size) (hb : ¬ (48 ≤ bt s k ∧ bt s k ≤ 57)) (most : Int) : numRes s.data.toList 10 most = (0, 3) := by
  have h2 : s.data.toList.all (digB 10) = false := by
    rw [List.all_eq_false]
    refine ⟨s[k]'hk, by show s.data.toList[k] ∈ _; exact List.getElem_mem _, ?_⟩
    unfold digB
    rw [← bt_get s k hk, decide_eq_true_eq]
    have hr : 0 ≤ bt s k ∧ bt s k ≤ 255 := by
      rw [bt_get s k hk]
      have := (s[k]'hk).toNat_lt
      omega
    exact fun h => hb ((rvD_dig hr.1 hr.2).2.1 h)
  unfold numRes
  rw [ne_empty h1, h2]
  rfl
set_option maxRecDepth 100000 in
set_option maxHeartbeats 8000000 in
theorem rnumber_any (s : ByteArray) (hs : s.size ≤ 1000000) (most : Int) (hm0 : 0 ≤ most) (hm : most ≤ 9223372036854775807) (n e : Int) (hr : numRes s.data.toList 10 most = (n, e)) (w : World) :
    Calls Tryz.prog 84 #[.string s, .int .i64 10, .int .i64 most] w fun r w' => r = .returned (.tuple #[.int .i64 n, .int .i64 e]) ∧ w = w' := by
  have HR := Lib.hid hr
  clear hr
  by_cases h0 : s.size = 0
  · have hz : ((s.size : Int) == 0) = true := by rw [beq_iff_eq]; omega
    have hK : Hid ((0, 2) = (n, e)) := by
      show (0, 2) = (n, e)
      rw [← HR.out]
      have : s.data.toList = [] := List.eq_nil_of_length_eq_zero (by simpa using h0)
      rw [this]
      rfl
    go_enter Tryz.func84, Tryz.ntmps84
    go_wp2_with fail
    go_ret2
    obtain ⟨rfl, rfl⟩ := Prod.mk.inj hK.out
    exact ⟨rfl, rfl⟩
  have h1 : 1 ≤ s.size := by omega
  have hsz : (1 : Int) ≤ s.size := by omega
  have hsz2 : (s.size : Int) ≤ 1000000 := by omega
  have hz : ((s.size : Int) == 0) = false := by rw [beq_eq_false_iff_ne]; omega
  clear h0
  go_enter Tryz.func84, Tryz.ntmps84
  go_wp2_with fail
  go_loop [8] (fun i => ∃ k : Nat, k ≤ s.size ∧ i = .int .i64 k ∧ ∀ j : Nat, j < k → 48 ≤ bt s j ∧ bt s j ≤ 57) (fun i => s.size - (intOf i).toNat)
  case atStart => exact ⟨0, by omega, rfl, fun j hj => by omega⟩
  case round =>
    obtain ⟨k, hk, rfl, hall⟩ := hrel
    have HA := Lib.hid hall
    clear hall
    by_cases hlt : k < s.size
    · obtain ⟨b, hb⟩ : ∃ b, b = bt s k := ⟨_, rfl⟩
      have hix := index_at s k hlt hb
      have hbr : 0 ≤ b ∧ b ≤ 255 := by
        rw [hb, bt_get s k hlt]
        have := (s[k]'hlt).toNat_lt
        omega
      have hb1 := hbr.1
      have hb2 := hbr.2
      obtain ⟨v, hv⟩ : ∃ v, v = rvD b := ⟨_, rfl⟩
      have HVC : Hid (∀ W : World, Calls Tryz.prog 126 #[.int .u8 b] W fun e w' => e = .returned (.int .i64 v) ∧ W = w') := fun W => by rw [hv]; exact rvalue02_any b hb1 hb2 W
      have HB := Lib.hid hb
      have HV := Lib.hid hv
      have HBR := Lib.hid hbr
      clear hb hbr hv
      by_cases hd : v < 10
      · have hg : decide ((10 : Int) ≤ v) = false := by rw [decide_eq_false_iff_not]; omega
        have HN : Hid (48 ≤ bt s k ∧ bt s k ≤ 57) := by
          show _ ∧ _
          rw [← HB.out]
          exact (rvD_dig HBR.out.1 HBR.out.2).1.1 (by rw [← HV.out]; exact hd)
        clear hd
        go_wp2_with (go_at_call 126; refine (HVC.out _).mono ?_; rintro e' w' ⟨rfl, rfl⟩)
        go_round
        case rel =>
          refine ⟨k + 1, by omega, by go_num, fun j hj => ?_⟩
          rcases (by omega : j = k ∨ j < k) with rfl | h
          · exact HN.out
          · exact HA.out j h
        case measure => simp [intOf]; omega
      · have hg : decide ((10 : Int) ≤ v) = true := by rw [decide_eq_true_eq]; omega
        have hK : Hid ((0, 3) = (n, e)) := by
          show (0, 3) = (n, e)
          rw [← HR.out, numRes_form h1 hlt (fun h => hd (by rw [HV.out]; exact (rvD_dig HBR.out.1 HBR.out.2).1.2 (by rw [HB.out]; exact h)))]
        clear hd
        go_wp2_with (go_at_call 126; refine (HVC.out _).mono ?_; rintro e' w' ⟨rfl, rfl⟩)
        go_ret2
        obtain ⟨rfl, rfl⟩ := Prod.mk.inj hK.out
        exact ⟨rfl, rfl⟩
    · obtain rfl : k = s.size := by omega
      have HD : Hid (digs s) := HA.out
      go_wp2_with fail
      go_loop [0] (fun v => ∃ t : ByteArray, v = .string t ∧ 1 ≤ t.size ∧ t.size ≤ 1000000 ∧ digs t ∧ numV 10 t.data.toList = numV 10 s.data.toList) (fun v => strSize v)
      case atStart => exact ⟨s, rfl, h1, hs, HD.out, rfl⟩
      case round =>
        obtain ⟨t, rfl, ht1, ht2, htd, htn⟩ := hrel
        have TD := Lib.hid htd
        have TN := Lib.hid htn
        clear htd htn
        have hts : (1 : Int) ≤ t.size := by omega
        have hts2 : (t.size : Int) ≤ 1000000 := by omega
        obtain ⟨b, hb⟩ : ∃ b, b = bt t 0 := ⟨_, rfl⟩
        have hix : ∀ W : World, (Instr.index 9 (.string t) (.int .i64 0)).run Tryz.prog W = .ok (.int .u8 b) W := index_at t 0 (by omega) hb
        have HB := Lib.hid hb
        clear hb
        by_cases hgo : 1 < t.size ∧ b = 48
        · obtain ⟨hg1, rfl⟩ := hgo
          have hg2 : (1 : Int) < t.size := by omega
          go_wp2_with fail
          go_round
          case rel => exact ⟨t.extract 1 t.size, by simp, by rw [tail_size]; omega, by rw [tail_size]; omega, tail_digs TD.out, by rw [tail_num (by omega) HB.out.symm]; exact TN.out⟩
          case measure => simp [strSize]; omega
        · have hstop : t.size = 1 ∨ (1 < t.size ∧ b ≠ 48) := by
            rcases (by omega : t.size = 1 ∨ (1 < t.size)) with h | h
            · exact .inl h
            · exact .inr ⟨h, fun h' => hgo ⟨h, h'⟩⟩
          clear hgo
          rcases hstop with hone | ⟨hmore, hne⟩
          · have ho : (t.size : Int) = 1 := by omega
            have ht19 : t.size ≤ 19 := by omega
            have h19 : decide ((19 : Int) < t.size) = false := by rw [decide_eq_false_iff_not]; omega
            go_wp2_with fail
            go_loop [9, 10] (fun nv iv => ∃ (k : Nat) (m : Int), nv = .int .u64 m ∧ iv = .int .i64 k ∧ k ≤ t.size ∧ m = numV 10 (t.data.toList.take k)) (fun _ iv => t.size - (intOf iv).toNat)
            case atStart => exact ⟨0, 0, rfl, rfl, by omega, rfl⟩
            case round =>
              obtain ⟨k, m, rfl, rfl, hk, hmv⟩ := hrel
              have HM := Lib.hid hmv
              have hsm := numV_range t TD.out k hk
              rw [← hmv] at hsm
              have hsm0 := hsm.1
              have hsm1 : m < 10000000000000000000 := by
                have hp : (10 : Nat) ^ k ≤ 10 ^ 19 := Nat.pow_le_pow_right (by decide) (by omega)
                have hp2 : (10 : Nat) ^ 19 = 10000000000000000000 := by decide
                omega
              clear hmv hsm
              by_cases hlt : k < t.size
              · obtain ⟨c, hc⟩ : ∃ c, c = bt t k := ⟨_, rfl⟩
                have hix2 := index_at t k hlt hc
                have hdk := TD.out k hlt
                rw [← hc] at hdk
                have hc1 := hdk.1
                have hc2 := hdk.2
                have HC := Lib.hid hc
                clear hc hdk
                by_cases hbig : 1152921504606846975 < m
                · have hK : Hid ((0, 5) = (n, e)) := by
                    show (0, 5) = (n, e)
                    rw [← HR.out, numRes_long HD.out h1]
                    have h3 := numV_mono t TD.out (k + 1) t.size hlt (Nat.le_refl _)
                    rw [numV_step t k hlt TD.out, ← HM.out, ← HC.out, take_size, TN.out] at h3
                    omega
                  go_wp2_with fail
                  go_ret2
                  obtain ⟨rfl, rfl⟩ := Prod.mk.inj hK.out
                  exact ⟨rfl, rfl⟩
                · have hsm2 : m ≤ 1152921504606846975 := by omega
                  clear hbig
                  go_wp2_with (go_at_call 126; refine (rvalue02_dig c hc1 hc2 _).mono ?_; rintro e' w' ⟨rfl, rfl⟩)
                  go_round
                  case rel => exact ⟨k + 1, m * 10 + (c - 48), by go_num, by go_num, by omega, by rw [numV_step t k hlt TD.out, ← HM.out, ← HC.out]⟩
                  case measure => simp [intOf]; omega
              · obtain rfl : k = t.size := by omega
                have hmm : Hid (m = numV 10 s.data.toList) := by show m = _; rw [HM.out, take_size, TN.out]
                by_cases hle : m ≤ most
                · have hK : Hid ((m, 0) = (n, e)) := by show (m, 0) = (n, e); rw [← HR.out, numRes_in HD.out h1 (by rw [← hmm.out]; exact hle), hmm.out]
                  have hgt : decide (most < m) = false := by rw [decide_eq_false_iff_not]; omega
                  go_wp2_with fail
                  go_ret2
                  obtain ⟨rfl, rfl⟩ := Prod.mk.inj hK.out
                  exact ⟨rfl, rfl⟩
                · have hK : Hid ((0, 5) = (n, e)) := by show (0, 5) = (n, e); rw [← HR.out, numRes_long HD.out h1 (by rw [← hmm.out]; omega)]
                  have hgt : most < m := by omega
                  go_wp2_with fail
                  go_ret2
                  obtain ⟨rfl, rfl⟩ := Prod.mk.inj hK.out
                  exact ⟨rfl, rfl⟩
          · have hg2 : (1 : Int) < t.size := by omega
            have hne' : (b == 48) = false := by simpa using hne
            by_cases hl : 19 < t.size
            · have h19 : decide ((19 : Int) < t.size) = true := by rw [decide_eq_true_eq]; omega
              have hK : Hid ((0, 5) = (n, e)) := by
                show (0, 5) = (n, e)
                rw [← HR.out, numRes_long HD.out h1 (by
                  have h3 := numV_first t TD.out (by omega) (by rw [← HB.out]; have := TD.out 0 (by omega); rw [← HB.out] at this; omega)
                  have hp : (10 : Nat) ^ 19 ≤ 10 ^ (t.size - 1) := Nat.pow_le_pow_right (by decide) (by omega)
                  have hp2 : (10 : Nat) ^ 19 = 10000000000000000000 := by decide
                  rw [TN.out] at h3
                  omega)]
              go_wp2_with fail
              go_ret2
              obtain ⟨rfl, rfl⟩ := Prod.mk.inj hK.out
              exact ⟨rfl, rfl⟩
            · have ht19 : t.size ≤ 19 := by omega
              have h19 : decide ((19 : Int) < t.size) = false := by rw [decide_eq_false_iff_not]; omega
              go_wp2_with fail
              go_loop [9, 10] (fun nv iv => ∃ (k : Nat) (m : Int), nv = .int .u64 m ∧ iv = .int .i64 k ∧ k ≤ t.size ∧ m = numV 10 (t.data.toList.take k)) (fun _ iv => t.size - (intOf iv).toNat)
              case atStart => exact ⟨0, 0, rfl, rfl, by omega, rfl⟩
              case round =>
                obtain ⟨k, m, rfl, rfl, hk, hmv⟩ := hrel
                have HM := Lib.hid hmv
                have hsm := numV_range t TD.out k hk
                rw [← hmv] at hsm
                have hsm0 := hsm.1
                have hsm1 : m < 10000000000000000000 := by
                  have hp : (10 : Nat) ^ k ≤ 10 ^ 19 := Nat.pow_le_pow_right (by decide) (by omega)
                  have hp2 : (10 : Nat) ^ 19 = 10000000000000000000 := by decide
                  omega
                clear hmv hsm
                by_cases hlt : k < t.size
                · obtain ⟨c, hc⟩ : ∃ c, c = bt t k := ⟨_, rfl⟩
                  have hix2 := index_at t k hlt hc
                  have hdk := TD.out k hlt
                  rw [← hc] at hdk
                  have hc1 := hdk.1
                  have hc2 := hdk.2
                  have HC := Lib.hid hc
                  clear hc hdk
                  by_cases hbig : 1152921504606846975 < m
                  · have hK : Hid ((0, 5) = (n, e)) := by
                      show (0, 5) = (n, e)
                      rw [← HR.out, numRes_long HD.out h1]
                      have h3 := numV_mono t TD.out (k + 1) t.size hlt (Nat.le_refl _)
                      rw [numV_step t k hlt TD.out, ← HM.out, ← HC.out, take_size, TN.out] at h3
                      omega
                    go_wp2_with fail
                    go_ret2
                    obtain ⟨rfl, rfl⟩ := Prod.mk.inj hK.out
                    exact ⟨rfl, rfl⟩
                  · have hsm2 : m ≤ 1152921504606846975 := by omega
                    clear hbig
                    go_wp2_with (go_at_call 126; refine (rvalue02_dig c hc1 hc2 _).mono ?_; rintro e' w' ⟨rfl, rfl⟩)
                    go_round
                    case rel => exact ⟨k + 1, m * 10 + (c - 48), by go_num, by go_num, by omega, by rw [numV_step t k hlt TD.out, ← HM.out, ← HC.out]⟩
                    case measure => simp [intOf]; omega
                · obtain rfl : k = t.size := by omega
                  have hmm : Hid (m = numV 10 s.data.toList) := by show m = _; rw [HM.out, take_size, TN.out]
                  by_cases hle : m ≤ most
                  · have hK : Hid ((m, 0) = (n, e)) := by show (m, 0) = (n, e); rw [← HR.out, numRes_in HD.out h1 (by rw [← hmm.out]; exact hle), hmm.out]
                    have hgt : decide (most < m) = false := by rw [decide_eq_false_iff_not]; omega
                    go_wp2_with fail
                    go_ret2
                    obtain ⟨rfl, rfl⟩ := Prod.mk.inj hK.out
                    exact ⟨rfl, rfl⟩
                  · have hK : Hid ((0, 5) = (n, e)) := by show (0, 5) = (n, e); rw [← HR.out, numRes_long HD.out h1 (by rw [← hmm.out]; omega)]
                    have hgt : most < m := by omega
                    go_wp2_with fail
                    go_ret2
                    obtain ⟨rfl, rfl⟩ := Prod.mk.inj hK.out
                    exact ⟨rfl, rfl⟩
end Go.Proofs.YtcpjkemjpgggcaaGreatDoor

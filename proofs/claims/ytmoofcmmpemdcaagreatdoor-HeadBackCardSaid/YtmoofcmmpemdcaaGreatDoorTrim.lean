/- octet.Trim and the reference's Trim: a text without the blanks and tabs at its ends. -/
import Derived.Test.YtmoofcmmpemdcaaGreatDoorStart
import Derived.Test.YtmoofcmmpemdcaaGreatDoorNumber
set_option linter.unusedSimpArgs false
set_option linter.unusedVariables false
namespace Go.Proofs.YtmoofcmmpemdcaaGreatDoor
open Go.RowKit
def isBl (r : Int) : Bool := decide (r = 32 ∨ r = 9)
def blL (b : UInt8) : Bool := isBl b.toNat
def trimL (l : List UInt8) : List UInt8 := ((l.dropWhile blL).reverse.dropWhile blL).reverse
/-- A text without the blanks and tabs at its ends. -/
def trimB (s : ByteArray) : ByteArray := ⟨(trimL s.data.toList).toArray⟩
theorem drop_all : ∀ (p l : List UInt8), (∀ b ∈ p, blL b = true) → (p ++ l).dropWhile blL = l.dropWhile blL
  | [], _, _ => rfl
  | b :: p, l, h => by
    rw [List.cons_append, List.dropWhile_cons, if_pos (h b (by simp)), drop_all p l (fun x hx => h x (by simp [hx]))]
theorem drop_nil {p : List UInt8} (h : ∀ b ∈ p, blL b = true) : p.dropWhile blL = [] := by
  have := drop_all p [] h
  rw [List.append_nil] at this
  exact this
theorem trim_front {p : List UInt8} (l : List UInt8) (h : ∀ b ∈ p, blL b = true) : trimL (p ++ l) = trimL l := by
  unfold trimL; rw [drop_all p l h]
theorem trim_back {q : List UInt8} (l : List UInt8) (h : ∀ b ∈ q, blL b = true) : trimL (l ++ q) = trimL l := by
  unfold trimL
  rw [List.dropWhile_append]
  by_cases hl : (l.dropWhile blL).isEmpty = true
  · rw [if_pos hl, drop_nil h]
    rw [List.isEmpty_iff] at hl
    rw [hl]
  · rw [if_neg hl, List.reverse_append, drop_all q.reverse _ (fun b hb => h b (by simpa using hb))]
theorem trim_id {l : List UInt8} (h1 : ∀ b, l.head? = some b → blL b = false) (h2 : ∀ b, l.getLast? = some b → blL b = false) : trimL l = l := by
  unfold trimL
  have e1 : l.dropWhile blL = l := by
    cases l with
    | nil => rfl
    | cons b t => rw [List.dropWhile_cons, if_neg (by rw [h1 b rfl]; decide)]
  rw [e1]
  have e2 : l.reverse.dropWhile blL = l.reverse := by
    cases hr : l.reverse with
    | nil => rfl
    | cons b t =>
      have : l.getLast? = some b := by rw [← List.head?_reverse, hr]; rfl
      rw [List.dropWhile_cons, if_neg (by rw [h2 b this]; decide)]
  rw [e2, List.reverse_reverse]
theorem isBl_true {r : Int} (h : r = 32 ∨ r = 9) : isBl r = true := decide_eq_true h
theorem isBl_false {r : Int} (h1 : r ≠ 32) (h2 : r ≠ 9) : isBl r = false := decide_eq_false (by omega)
theorem isBl_or {r : Int} (h : isBl r = true) : r = 32 ∨ r = 9 := of_decide_eq_true h
theorem isBl_ne {r : Int} (h : isBl r = false) : r ≠ 32 ∧ r ≠ 9 := by
  have := of_decide_eq_false h
  omega
theorem blL_bt (s : ByteArray) (k : Nat) (h : k < s.size) : blL (s[k]'h) = isBl (bt s k) := by unfold blL; rw [bt_get s k h]
set_option maxRecDepth 100000 in
theorem blank_any (r : Int) (w : World) : Calls Tryz.prog 167 #[.int .u8 r] w fun e w' => e = .returned (.bool (isBl r)) ∧ w = w' := by
  by_cases h1 : r = 32
  · have HV := Lib.hid (isBl_true (.inl h1))
    subst h1
    go_enter Tryz.func167, Tryz.ntmps167
    go_wp2_with fail
    go_ret
    rw [HV.out]
    exact ⟨rfl, rfl⟩
  · have e1 : (r == 32) = false := by rw [beq_eq_false_iff_ne]; exact h1
    by_cases h2 : r = 9
    · have HV := Lib.hid (isBl_true (.inr h2))
      subst h2
      go_enter Tryz.func167, Tryz.ntmps167
      go_wp2_with fail
      go_ret
      rw [HV.out]
      exact ⟨rfl, rfl⟩
    · have e2 : (r == 9) = false := by rw [beq_eq_false_iff_ne]; exact h2
      have HV := Lib.hid (isBl_false h1 h2)
      go_enter Tryz.func167, Tryz.ntmps167
      go_wp2_with fail
      go_ret
      rw [HV.out]
      exact ⟨rfl, rfl⟩
theorem blank_at {r : Int} {p : Bool} (h : isBl r = p) (w : World) : Calls Tryz.prog 167 #[.int .u8 r] w fun e w' => e = .returned (.bool p) ∧ w = w' := by
  subst h; exact blank_any r w
theorem ext_list {a b : ByteArray} (h : a.data.toList = b.data.toList) : a = b := by
  apply ByteArray.ext
  exact Array.toList_inj.1 h
theorem mem_take_bt {s : ByteArray} {k : Nat} (hk : k ≤ s.size) (h : ∀ j, j < k → isBl (bt s j) = true) : ∀ b ∈ s.data.toList.take k, blL b = true := by
  intro b hb
  obtain ⟨j, hj, e⟩ := List.getElem_of_mem hb
  rw [List.length_take] at hj
  have hj' : j < s.size := by omega
  rw [List.getElem_take] at e
  rw [← e]
  show blL (s[j]'hj') = true
  rw [blL_bt]; exact h j (by omega)
theorem mem_drop_bt {s : ByteArray} {k : Nat} (h : ∀ j, k ≤ j → j < s.size → isBl (bt s j) = true) : ∀ b ∈ s.data.toList.drop k, blL b = true := by
  intro b hb
  obtain ⟨j, hj, e⟩ := List.getElem_of_mem hb
  rw [List.length_drop] at hj
  have hj' : k + j < s.size := by have : s.data.toList.length = s.size := by simp
                                  omega
  rw [List.getElem_drop] at e
  rw [← e]
  show blL (s[k + j]'hj') = true
  rw [blL_bt]; exact h (k + j) (by omega) hj'
theorem trim_none {s : ByteArray} (h : ∀ j, j < s.size → isBl (bt s j) = true) : trimB s = ⟨#[]⟩ := by
  have := mem_take_bt (Nat.le_refl _) h
  rw [List.take_of_length_le (by simp)] at this
  unfold trimB trimL
  rw [drop_nil this]
  rfl
theorem list_cut (s : ByteArray) {k j : Nat} (hkj : k ≤ j) : s.data.toList = s.data.toList.take k ++ ((s.extract k j).data.toList ++ s.data.toList.drop j) := by
  rw [Lib.extract_data]
  have h1 : s.data.toList.drop j = (s.data.toList.drop k).drop (j - k) := by rw [List.drop_drop]; congr 1; omega
  rw [h1, List.take_append_drop, List.take_append_drop]
theorem trim_cut {s : ByteArray} {k j : Nat} (hkj : k < j) (hj : j ≤ s.size) (h1 : ∀ i, i < k → isBl (bt s i) = true) (h2 : ∀ i, j ≤ i → i < s.size → isBl (bt s i) = true) (h3 : isBl (bt s k) = false) (h4 : isBl (bt s (j - 1)) = false) : trimB s = s.extract k j := by
  apply ext_list
  show trimL s.data.toList = _
  rw [list_cut s (Nat.le_of_lt hkj), trim_front _ (mem_take_bt (by omega) h1), trim_back _ (mem_drop_bt h2)]
  refine trim_id (fun b hb => ?_) (fun b hb => ?_)
  · rw [List.head?_eq_getElem?, Lib.extract_data, List.getElem?_take_of_lt (by omega), List.getElem?_drop, Nat.add_zero, List.getElem?_eq_getElem (by simp; omega)] at hb
    have := Option.some.inj hb
    rw [← this]
    show blL (s[k]'(by omega)) = false
    rw [blL_bt]; exact h3
  · rw [List.getLast?_eq_getElem?, Lib.extract_data, List.length_take, List.length_drop] at hb
    have hl : s.data.toList.length = s.size := by simp
    rw [hl, show min (j - k) (s.size - k) - 1 = j - k - 1 by omega, List.getElem?_take_of_lt (by omega), List.getElem?_drop, show k + (j - k - 1) = j - 1 by omega, List.getElem?_eq_getElem (by simp; omega)] at hb
    have := Option.some.inj hb
    rw [← this]
    show blL (s[j - 1]'(by omega)) = false
    rw [blL_bt]; exact h4
set_option maxRecDepth 100000 in
set_option maxHeartbeats 4000000 in
theorem trim_any (s : ByteArray) (hs : s.size ≤ 9223372036854775807) (w : World) : Calls Tryz.prog 116 #[.string s] w fun e w' => e = .returned (.string (trimB s)) ∧ w = w' := by
  have hsi : (s.size : Int) ≤ 9223372036854775807 := by omega
  go_enter Tryz.func116, Tryz.ntmps116
  go_wp2_with fail
  go_loop [3] (fun i => ∃ k : Nat, k ≤ s.size ∧ i = .int .i64 k ∧ ∀ j, j < k → isBl (bt s j) = true) (fun i => s.size - (intOf i).toNat)
  case atStart => exact ⟨0, by omega, rfl, fun j hj => by omega⟩
  case round =>
    obtain ⟨k, hk, rfl, hall⟩ := hrel
    have HA := Lib.hid hall
    clear hall
    by_cases hlt : k < s.size
    · have hki : (k : Int) < s.size := by omega
      obtain ⟨b, hb⟩ : ∃ b, b = bt s k := ⟨_, rfl⟩
      have hix : ∀ W : World, (Instr.index 9 (.string s) (.int .i64 k)).run Tryz.prog W = .ok (.int .u8 b) W := by rw [hb]; exact index_bt s k hlt
      cases hbl : isBl b
      · have HB := Lib.hid hbl
        have HBB := Lib.hid hb
        clear hb hbl
        go_wp2_with (go_at_call 167; refine (blank_at HB.out _).mono ?_; rintro e' w' ⟨rfl, rfl⟩)
        go_loop [4] (fun i => ∃ j : Nat, k + 1 ≤ j ∧ j ≤ s.size ∧ i = .int .i64 j ∧ ∀ x, j ≤ x → x < s.size → isBl (bt s x) = true) (fun i => (intOf i).toNat)
        case atStart => exact ⟨s.size, by omega, Nat.le_refl _, rfl, fun x h1 h2 => by omega⟩
        case round =>
          obtain ⟨j, hj1, hj2, rfl, hall⟩ := hrel
          have HC := Lib.hid hall
          clear hall hix
          obtain ⟨i, rfl⟩ : ∃ i, j = i + 1 := ⟨j - 1, by omega⟩
          have hji : (k : Int) < (i : Int) + 1 := by omega
          have hjk : (i : Int) + 1 ≤ 9223372036854775807 := by omega
          have hjs : (i : Int) < s.size := by omega
          obtain ⟨c, hc⟩ : ∃ c, c = bt s i := ⟨_, rfl⟩
          have hix : ∀ W : World, (Instr.index 9 (.string s) (.int .i64 i)).run Tryz.prog W = .ok (.int .u8 c) W := by rw [hc]; exact index_bt s i (by omega)
          cases hcl : isBl c
          · have HD := Lib.hid hcl
            have HR : Hid (trimB s = s.extract k (i + 1)) := trim_cut (by omega) hj2 HA.out HC.out (HBB.out ▸ HB.out) (by rw [Nat.add_sub_cancel]; exact hc ▸ hcl)
            have hsl := fun (W : World) => run_slice_string (w := W) 9 s .i64 .i64 (k : Int) ((i : Int) + 1) Tryz.underlying9 (by omega) (by omega) (by omega)
            have e1 : ((i : Int) + 1).toNat = i + 1 := rfl
            have e2 : (k : Int).toNat = k := rfl
            rw [e1, e2] at hsl
            clear hc hcl e1 e2
            go_wp2_with (go_at_call 167; refine (blank_at HD.out _).mono ?_; rintro e' w' ⟨rfl, rfl⟩)
            go_ret
            rw [HR.out]
            exact ⟨rfl, rfl⟩
          · have HD := Lib.hid hcl
            have hne : Hid (k + 1 ≤ i) := by
              show k + 1 ≤ i
              rcases (by omega : k + 1 ≤ i ∨ i = k) with h | h
              · exact h
              · rw [hc, h] at hcl
                have := HB.out
                rw [HBB.out, hcl] at this
                cases this
            have HE : Hid (∀ x, i ≤ x → x < s.size → isBl (bt s x) = true) := by
              show ∀ x, i ≤ x → x < s.size → isBl (bt s x) = true
              intro x h1 h2
              rcases (by omega : x = i ∨ i + 1 ≤ x) with rfl | h
              · rw [← hc]; exact hcl
              · exact HC.out x h h2
            clear hc hcl
            go_wp2_with (go_at_call 167; refine (blank_at HD.out _).mono ?_; rintro e' w' ⟨rfl, rfl⟩)
            go_round
            case rel => exact ⟨i, hne.out, by omega, by go_num, HE.out⟩
            case measure => simp [intOf]
      · have HB := Lib.hid hbl
        have HE : Hid (∀ j, j < k + 1 → isBl (bt s j) = true) := by
          show ∀ j, j < k + 1 → isBl (bt s j) = true
          intro x h1
          rcases (by omega : x = k ∨ x < k) with rfl | h
          · rw [← hb]; exact hbl
          · exact HA.out x h
        clear hb hbl
        go_wp2_with (go_at_call 167; refine (blank_at HB.out _).mono ?_; rintro e' w' ⟨rfl, rfl⟩)
        go_round
        case rel => exact ⟨k + 1, by omega, by go_num, HE.out⟩
        case measure => simp [intOf]; omega
    · obtain rfl : k = s.size := by omega
      have HR : Hid (trimB s = ByteArray.empty) := trim_none HA.out
      have hsl := fun (W : World) => run_slice_string (w := W) 9 s .i64 .i64 (s.size : Int) (s.size : Int) Tryz.underlying9 (by omega) (by omega) (by omega)
      have e2 : (s.size : Int).toNat = s.size := rfl
      rw [e2] at hsl
      have hd : decide ((s.size : Int) < s.size) = false := by rw [decide_eq_false_iff_not]; omega
      clear e2 hlt hk
      go_wp2_with fail
      refine wp_loop_rounds 1 ?_
      rw [rounds_succ]
      go_wp2_with fail
      go_ret
      rw [HR.out]
      exact ⟨rfl, rfl⟩
theorem list_first {s : ByteArray} (h : 0 < s.size) : s.data.toList = [s[0]'h] ++ (s.extract 1 s.size).data.toList := by
  have := list_cut s (k := 1) (j := s.size) (by omega)
  rw [List.drop_of_length_le (l := s.data.toList) (i := s.size) (by simp), List.append_nil] at this
  rw [this]
  congr 1
  rw [List.take_succ_eq_append_getElem (by simp; omega)]
  rfl
theorem list_last {s : ByteArray} (h : 0 < s.size) : s.data.toList = (s.extract 0 (s.size - 1)).data.toList ++ [s[s.size - 1]'(by omega)] := by
  have := list_cut s (k := 0) (j := s.size - 1) (by omega)
  rw [List.take_zero, List.nil_append] at this
  rw [this]
  congr 1
  rw [List.drop_eq_getElem_cons (by simp; omega), List.drop_of_length_le (by simp; omega)]
  rfl
theorem trim_step1 {s : ByteArray} (h : 0 < s.size) (hb : isBl (bt s 0) = true) : trimB (s.extract 1 s.size) = trimB s := by
  apply ext_list
  show trimL _ = trimL _
  rw [list_first h, trim_front]
  intro b hb'
  rw [List.mem_singleton] at hb'
  rw [hb', blL_bt]; exact hb
theorem trim_step2 {s : ByteArray} (h : 0 < s.size) (hb : isBl (bt s (s.size - 1)) = true) : trimB (s.extract 0 (s.size - 1)) = trimB s := by
  apply ext_list
  show trimL _ = trimL _
  rw [list_last h, trim_back]
  intro b hb'
  rw [List.mem_singleton] at hb'
  rw [hb', blL_bt]; exact hb
theorem trim_done {s : ByteArray} (h : 0 < s.size) (h1 : isBl (bt s 0) = false) (h2 : isBl (bt s (s.size - 1)) = false) : trimB s = s := by
  rw [trim_cut (k := 0) (j := s.size) h (Nat.le_refl _) (fun i hi => by omega) (fun i hi hi' => by omega) h1 h2]
  apply ext_list
  rw [Lib.extract_data, List.drop_zero, List.take_of_length_le (by simp)]
theorem trim_empty {s : ByteArray} (h : s.size = 0) : trimB s = s := by
  rw [trim_none (fun j hj => by omega)]
  apply ext_list
  have : s.data.toList = [] := List.eq_nil_of_length_eq_zero (by simpa using h)
  rw [this]
theorem cut_last_bt {s : ByteArray} (h : 1 < s.size) : bt (s.extract 0 (s.size - 1)) 0 = bt s 0 := by
  have hz : 0 < (s.extract 0 (s.size - 1)).size := by simp; omega
  have h1 : (s.extract 0 (s.size - 1)).data.toList[0]? = s.data.toList[0]? := by rw [Lib.extract_data, List.getElem?_take_of_lt (by omega), List.drop_zero]
  rw [bt_get _ 0 hz, bt_get s 0 (by omega)]
  rw [List.getElem?_eq_getElem (by simpa using hz), List.getElem?_eq_getElem (by simp; omega)] at h1
  exact congrArg (fun b : UInt8 => (b.toNat : Int)) (Option.some.inj h1)
set_option maxRecDepth 100000 in
set_option maxHeartbeats 4000000 in
theorem rtrim_any (s : ByteArray) (hs : s.size ≤ 9223372036854775807) (w : World) : Calls Tryz.prog 138 #[.string s] w fun e w' => e = .returned (.string (trimB s)) ∧ w = w' := by
  go_enter Tryz.func138, Tryz.ntmps138
  go_wp2_with fail
  go_loop [0] (fun v => ∃ S : ByteArray, v = .string S ∧ S.size ≤ 9223372036854775807 ∧ trimB S = trimB s) (fun v => (match v with | .string S => S.size | _ => 0))
  case atStart => exact ⟨s, rfl, hs, rfl⟩
  case round =>
    obtain ⟨S, rfl, hS, ht⟩ := hrel
    have HT := Lib.hid ht
    clear ht hs
    have hSi : (S.size : Int) ≤ 9223372036854775807 := by omega
    by_cases h0 : S.size = 0
    · have HR : Hid (trimB s = S) := by show trimB s = S; rw [← HT.out, trim_empty h0]
      have hz : (S.size : Int) = 0 := by omega
      clear h0
      go_wp2_with fail
      refine wp_loop_rounds 1 ?_
      rw [rounds_succ]
      go_wp2_with fail
      go_ret
      rw [HR.out]
      exact ⟨rfl, rfl⟩
    · have hp : (0 : Int) < S.size := by omega
      obtain ⟨b, hb⟩ : ∃ b, b = bt S 0 := ⟨_, rfl⟩
      have hix : ∀ W : World, (Instr.index 9 (.string S) (.int .i64 0)).run Tryz.prog W = .ok (.int .u8 b) W := by rw [hb]; exact index_bt S 0 (by omega)
      by_cases hx : b = 32 ∨ b = 9
      · have hsl := fun (W : World) => run_slice_string_l (P := Tryz.prog) W 9 S Tryz.underlying9 .i64 1 (by omega) (by omega)
        have e1 : (1 : Int).toNat = 1 := rfl
        rw [e1] at hsl
        have HN : Hid (trimB (S.extract 1 S.size) = trimB s ∧ (S.extract 1 S.size).size + 1 = S.size) := by
          show _ ∧ _
          refine ⟨?_, by simp; omega⟩
          rw [trim_step1 (by omega) (hb ▸ isBl_true hx)]; exact HT.out
        have hy : b = 32 ∨ ((b == 32) = false ∧ b = 9) := by
          rcases hx with h | h
          · exact .inl h
          · exact .inr ⟨by rw [h]; rfl, h⟩
        have HZ := Lib.hid h0
        clear hb hx h0 e1
        rcases hy with rfl | ⟨hy, rfl⟩
        all_goals
          go_wp2_with fail
          go_round
          case rel => exact ⟨_, rfl, by have := HN.out.2; omega, HN.out.1⟩
          case measure => have := HN.out.2; simp only []; omega
      · have n1 : (b == 32) = false := by rw [beq_eq_false_iff_ne]; exact fun h => hx (.inl h)
        have n2 : (b == 9) = false := by rw [beq_eq_false_iff_ne]; exact fun h => hx (.inr h)
        have HB : Hid (isBl (bt S 0) = false) := by show _ = _; rw [← hb]; exact isBl_false (fun h => hx (.inl h)) (fun h => hx (.inr h))
        have H0 := Lib.hid h0
        clear hb hx h0
        go_wp2_with fail
        go_loop [0] (fun v => ∃ X : ByteArray, v = .string X ∧ X.size ≤ 9223372036854775807 ∧ trimB X = trimB s ∧ 0 < X.size ∧ isBl (bt X 0) = false) (fun v => (match v with | .string X => X.size | _ => 0))
        case atStart => exact ⟨S, rfl, hS, HT.out, by have := H0.out; omega, HB.out⟩
        case round =>
          obtain ⟨X, rfl, hX, ht, hp2, hb2⟩ := hrel
          have HT2 := Lib.hid ht
          have HB2 := Lib.hid hb2
          clear ht hb2 hix n1 n2 hp hSi
          have hXi : (X.size : Int) ≤ 9223372036854775807 := by omega
          have hXp : (0 : Int) < X.size := by omega
          obtain ⟨i, hi⟩ : ∃ i, X.size = i + 1 := ⟨X.size - 1, by omega⟩
          have hii : (X.size : Int) - 1 = (i : Int) := by omega
          obtain ⟨c, hc⟩ : ∃ c, c = bt X i := ⟨_, rfl⟩
          have hix : ∀ W : World, (Instr.index 9 (.string X) (.int .i64 ((X.size : Int) - 1))).run Tryz.prog W = .ok (.int .u8 c) W := by rw [hc, hii]; exact index_bt X i (by omega)
          by_cases hx : c = 32 ∨ c = 9
          · have hsl := fun (W : World) => run_slice_string_h (P := Tryz.prog) W 9 X Tryz.underlying9 .i64 ((X.size : Int) - 1) (by omega) (by omega)
            have e1 : ((X.size : Int) - 1).toNat = X.size - 1 := by omega
            rw [e1] at hsl
            have hi2 : X.size - 1 = i := by omega
            have hne : 1 ≤ i := by
              rcases (by omega : 1 ≤ i ∨ i = 0) with h | h
              · exact h
              · rw [hc, h] at hx
                have := isBl_true hx
                rw [HB2.out] at this
                cases this
            have HN : Hid (trimB (X.extract 0 (X.size - 1)) = trimB s ∧ (X.extract 0 (X.size - 1)).size + 1 = X.size ∧ 1 ≤ (X.extract 0 (X.size - 1)).size ∧ isBl (bt (X.extract 0 (X.size - 1)) 0) = false) := by
              show _ ∧ _
              refine ⟨?_, by simp; omega, by simp; omega, ?_⟩
              · rw [trim_step2 (by omega) (by rw [hi2, ← hc]; exact isBl_true hx)]; exact HT2.out
              · rw [cut_last_bt (by omega)]; exact HB2.out
            have hy : c = 32 ∨ ((c == 32) = false ∧ c = 9) := by
              rcases hx with h | h
              · exact .inl h
              · exact .inr ⟨by rw [h]; rfl, h⟩
            have HI := Lib.hid hi
            clear hc hx e1 hi hi2 hii hne
            rcases hy with rfl | ⟨hy, rfl⟩
            all_goals
              go_wp2_with fail
              go_round
              case rel => exact ⟨_, rfl, by have := HN.out.2.1; omega, HN.out.1, HN.out.2.2.1, HN.out.2.2.2⟩
              case measure => have := HN.out.2.1; simp only []; omega
          · have n1 : (c == 32) = false := by rw [beq_eq_false_iff_ne]; exact fun h => hx (.inl h)
            have n2 : (c == 9) = false := by rw [beq_eq_false_iff_ne]; exact fun h => hx (.inr h)
            have HR : Hid (trimB s = X) := by
              show trimB s = X
              rw [← HT2.out]
              exact trim_done hp2 HB2.out (by rw [show X.size - 1 = i by omega, ← hc]; exact isBl_false (fun h => hx (.inl h)) (fun h => hx (.inr h)))
            clear hc hx hi hii
            go_wp2_with fail
            go_ret
            rw [HR.out]
            exact ⟨rfl, rfl⟩
end Go.Proofs.YtmoofcmmpemdcaaGreatDoor

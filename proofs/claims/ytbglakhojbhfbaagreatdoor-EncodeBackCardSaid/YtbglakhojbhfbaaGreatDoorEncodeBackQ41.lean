/- Texts packed for one claim, 41 of 49: HdB HRight HdF HeadPrints HBackP. -/
import Derived.Test.YtbglakhojbhfbaaGreatDoorEncodeBackQ34
import Derived.Test.YtbglakhojbhfbaaGreatDoorEncodeBackQ35
import Derived.Test.YtbglakhojbhfbaaGreatDoorEncodeBackQ38
import Derived.Test.YtbglakhojbhfbaaGreatDoorEncodeBackQ40
import Derived.Test.YtbglakhojbhfbaaGreatDoorEncodeBackQ36
-- HdB
-- HRight
set_option linter.unusedSimpArgs false
set_option linter.unusedVariables false
namespace Go.Proofs.YtbglakhojbhfbaaGreatDoor
open Go.RowKit
def allR (l : List Fd) : Bool := l.all fun f => fieldR f.1 f.2
/-- Is it a request's first line; a response's. -/
def reqR (m t : ByteArray) (n : Int) (r : ByteArray) : Bool := tokL m.data.toList && (visL t.data.toList && (n == 0 && r.toList.isEmpty))
def rspR (m t : ByteArray) (n : Int) (r : ByteArray) : Bool := m.toList.isEmpty && (t.toList.isEmpty && (decide (100 ≤ n) && (decide (n ≤ 599) && valL r.data.toList)))
/-- Is a head right? -/
def rightP (m t : ByteArray) (k n : Int) (r : ByteArray) (l : List Fd) : Bool := (reqR m t n r || rspR m t n r) && ((k == 0 || k == 1) && allR l)
theorem right_ref (m t : ByteArray) (k n : Int) (r : ByteArray) (l : List Fd) : rightP m t k n r l = (((k == 0 || k == 1) && (if m.toList.isEmpty = true then (t.toList.isEmpty && (decide (100 ≤ n) && (decide (n ≤ 599) && valL r.data.toList))) else (tokL m.data.toList && (visL t.data.toList && (n == 0 && r.toList.isEmpty))))) && allR l) := by
  unfold rightP reqR rspR
  cases hm : m.toList.isEmpty with
  | true =>
    have h1 : tokL m.data.toList = false := by
      rw [isEmpty_list] at hm
      unfold tokL
      rw [hm]
      rfl
    rw [h1]
    cases (k == 0 || k == 1) <;> simp
  | false => cases (k == 0 || k == 1) <;> simp
end Go.Proofs.YtbglakhojbhfbaaGreatDoor
-- HdF
-- HeadPrints
set_option linter.unusedSimpArgs false
set_option linter.unusedVariables false
namespace Go.Proofs.YtbglakhojbhfbaaGreatDoor
open Go.RowKit
theorem flds_of {w : World} {A : Option Addr} {len cap : Nat} {l : List Fd} (h : Fds w A len l) : Flds w (.slice A len cap) l := by
  refine ⟨A, cap, by rw [h.1], fun i hi => ?_⟩
  obtain ⟨b, off, e, _, hc⟩ := h.2 (by have := h.1; omega)
  obtain ⟨c0, c1⟩ := hc i l[i] (List.getElem?_eq_getElem hi)
  exact ⟨b, off, e, by rw [Nat.mul_comm 2 i]; exact c0, by rw [Nat.mul_comm 2 i]; exact c1⟩
def shortP (m t r : ByteArray) (l : List Fd) : Bool := fewF l && (decide (m.size ≤ 100) && (decide (t.size ≤ 500) && decide (r.size ≤ 300)))
theorem shortP_ok {m t r : ByteArray} {l : List Fd} (h : shortP m t r l = true) : l.length ≤ 40 ∧ (∀ g ∈ l, g.1.size ≤ 1000 ∧ g.2.size ≤ 1000) ∧ m.size ≤ 1000 ∧ t.size ≤ 1000 ∧ r.size ≤ 1000 := by
  unfold shortP fewF at h
  simp only [Bool.and_eq_true, decide_eq_true_eq, List.all_eq_true] at h
  obtain ⟨⟨h1, h2⟩, h3, h4, h5⟩ := h
  refine ⟨h1, fun g hg => ?_, by omega, by omega, by omega⟩
  have := h2 g hg
  omega
end Go.Proofs.YtbglakhojbhfbaaGreatDoor
-- HBackP
set_option linter.unusedSimpArgs false
set_option linter.unusedVariables false
namespace Go.Proofs.YtbglakhojbhfbaaGreatDoor
open Go.RowKit
theorem hb_posL (c : UInt8) : ∀ (l : List UInt8) (o : Nat), (∀ b ∈ l, b ≠ c) → posL c o l = []
  | [], _, _ => rfl
  | b :: l, o, h => by rw [posL_cons_ne (h b (by simp)), hb_posL c l (o + 1) (fun x hx => h x (by simp [hx]))]
theorem hb_tok {l : List UInt8} (h : tokL l = true) {c : UInt8} (hc : tcharB c.toNat = false) : ∀ b ∈ l, b ≠ c := by
  intro b hb e
  unfold tokL at h
  rw [Bool.and_eq_true, List.all_eq_true] at h
  have := h.2 b hb
  rw [e, hc] at this
  cases this
theorem hb_vis {l : List UInt8} (h : visL l = true) {c : UInt8} (hc : visB c.toNat = false) : ∀ b ∈ l, b ≠ c := by
  intro b hb e
  unfold visL at h
  rw [Bool.and_eq_true, List.all_eq_true] at h
  have := h.2 b hb
  rw [e, hc] at this
  cases this
theorem hb_val {l : List UInt8} (h : valL l = true) {c : UInt8} (hc : valueB c.toNat = false) : ∀ b ∈ l, b ≠ c := by
  intro b hb e
  unfold valL at h
  rw [List.all_eq_true] at h
  have := h b hb
  rw [e, hc] at this
  cases this
theorem hb_two {V : ByteArray} {k : Int} (h : vminor V = (k, 0)) : k = 0 ∨ k = 1 := by
  unfold vminor at h
  split at h
  · simp at h
  · split at h
    · split at h <;> simp only [Prod.mk.injEq] at h <;> omega
    · simp at h
theorem hb_ver {k : Int} (h : k = 0 ∨ k = 1) : vminor (verB k) = (k, 0) ∧ vform (verB k) = true := by
  rcases h with rfl | rfl
  · exact ⟨by decide +kernel, by decide +kernel⟩
  · exact ⟨by decide +kernel, by decide +kernel⟩
theorem hb_data {m t r : ByteArray} {k n : Int} (h : m.size ≠ 0) : (lineB m t k n r).data.toList = m.data.toList ++ ([32] ++ (t.data.toList ++ ([32] ++ (verB k).data.toList))) := by
  unfold lineB
  rw [if_neg h]
  simp [sp1]
theorem hb_data' {m t r : ByteArray} {k n : Int} (h : m.size = 0) : (lineB m t k n r).data.toList = (verB k).data.toList ++ ([32] ++ ((padB n 3).data.toList ++ ([32] ++ r.data.toList))) := by
  unfold lineB
  rw [if_pos h]
  simp [sp1]
theorem hb_sz (b : ByteArray) : b.data.toList.length = b.size := by simp
theorem hb_lsize {m t r : ByteArray} {k n : Int} (h : m.size ≠ 0) : (lineB m t k n r).size = m.size + t.size + 10 := by
  rw [← hb_sz, hb_data h]
  have := verB_size k
  rw [← hb_sz] at this
  simp only [List.length_append, this, hb_sz, List.length_cons, List.length_nil]
  omega
theorem hb_req_to {s m t : ByteArray} {k : Int} (h : reqRes s = ((m, t, k), 0)) : tokL m.data.toList = true ∧ visL t.data.toList = true ∧ (k = 0 ∨ k = 1) ∧ m.size ≤ s.size ∧ t.size ≤ s.size := by
  by_cases h2 : (posL 32 0 s.data.toList).length = 2
  rotate_left
  · rw [reqRes_form h2] at h; simp at h
  obtain ⟨a, b, hab⟩ : ∃ a b, posL 32 0 s.data.toList = [a, b] := by
    match hq : posL 32 0 s.data.toList, h2 with
    | [a, b], _ => exact ⟨a, b, rfl⟩
  rw [reqRes_two hab] at h
  cases ht : tokL (s.extract 0 a).data.toList
  · rw [ht, if_pos rfl] at h; simp at h
  rw [ht, if_neg (by decide)] at h
  cases hv : visL (s.extract (a + 1) b).data.toList
  · rw [hv, if_pos rfl] at h; simp at h
  rw [hv, if_neg (by decide)] at h
  obtain ⟨k', f, hk⟩ : ∃ k' f, vminor (s.extract (b + 1) s.size) = (k', f) := ⟨_, _, rfl⟩
  rw [hk] at h
  by_cases hf : f = 0
  rotate_left
  · rw [if_pos hf] at h
    have := (Prod.mk.inj h).2
    exact absurd this hf
  subst hf
  rw [if_neg (by simp)] at h
  obtain ⟨h1, _⟩ := Prod.mk.inj h
  obtain ⟨rfl, h3⟩ := Prod.mk.inj h1
  obtain ⟨rfl, h4⟩ := Prod.mk.inj h3
  have h4 : k' = k := h4
  subst h4
  refine ⟨ht, hv, hb_two hk, ?_, ?_⟩
  · simp only [ByteArray.size_extract]; omega
  · simp only [ByteArray.size_extract]; omega
theorem hb_tok_ne {M : ByteArray} (h : tokL M.data.toList = true) : M.size ≠ 0 := by
  intro h0
  unfold tokL at h
  rw [Bool.and_eq_true] at h
  have : M.data.toList = [] := List.eq_nil_of_length_eq_zero (by rw [hb_sz]; exact h0)
  rw [this] at h
  exact absurd h.1 (by decide)
theorem hb_req_of {M T : ByteArray} {k : Int} (ht : tokL M.data.toList = true) (hv : visL T.data.toList = true) (hk : k = 0 ∨ k = 1) : reqRes (lineB M T k 0 ⟨#[]⟩) = ((M, T, k), 0) := by
  have hm0 := hb_tok_ne ht
  have hL := hb_data (m := M) (t := T) (k := k) (n := 0) (r := ⟨#[]⟩) hm0
  have hLs := hb_lsize (m := M) (t := T) (k := k) (n := 0) (r := ⟨#[]⟩) hm0
  obtain ⟨L, hLe⟩ : ∃ L, L = lineB M T k 0 ⟨#[]⟩ := ⟨_, rfl⟩
  rw [← hLe] at hL hLs ⊢
  have hmv := hb_ver hk
  have hver : ∀ b ∈ (verB k).data.toList, b ≠ 32 := by
    rcases hk with rfl | rfl <;> decide
  have hpos : posL 32 0 L.data.toList = [M.size, M.size + 1 + T.size] := by
    rw [hL, posL_append, hb_posL 32 _ _ (hb_tok ht (by decide)), hb_sz, List.nil_append, Nat.zero_add, List.singleton_append, posL_cons_eq, posL_append, hb_posL 32 _ _ (hb_vis hv (by decide)), hb_sz, List.nil_append, List.singleton_append, posL_cons_eq, hb_posL 32 _ _ hver]
  have e1 : L.extract 0 M.size = M := ext_list (by
    rw [Lib.extract_data, hL, List.drop_zero, Nat.sub_zero, ← hb_sz M, List.take_left'] <;> rfl)
  have e2 : L.extract (M.size + 1) (M.size + 1 + T.size) = T := ext_list (by
    rw [Lib.extract_data, hL, ← List.append_assoc, List.drop_left' (by simp), Nat.add_sub_cancel_left, ← hb_sz T, List.take_left'] <;> rfl)
  have e3 : L.extract (M.size + 1 + T.size + 1) L.size = verB k := ext_list (by
    rw [Lib.extract_data, hL, ← List.append_assoc, ← List.append_assoc, ← List.append_assoc, List.drop_left' (by simp; omega)]
    apply List.take_of_length_le
    rw [hb_sz, verB_size]; omega)
  rw [reqRes_two hpos, e1, e2, e3, ht, hv, hmv.1]
  rfl
theorem hb_fig {n : Int} (h1 : 100 ≤ n) (h2 : n ≤ 599) : figL 10 n.natAbs = [figD (n.natAbs / 100), figD (n.natAbs / 10 % 10), figD (n.natAbs % 10)] := by
  rw [figL_high (by decide) (by omega), figL_high (b := 10) (n := n.natAbs / 10) (by decide) (by omega), figL_low (by omega), Nat.div_div_eq_div_mul]
  rfl
theorem hb_dig (d : Nat) (h : d < 10) : digV (figD d).toNat = d ∧ 48 ≤ ((figD d).toNat : Int) ∧ ((figD d).toNat : Int) ≤ 57 := by
  have : ∀ d, d < 10 → digV (figD d).toNat = d ∧ 48 ≤ ((figD d).toNat : Int) ∧ ((figD d).toNat : Int) ≤ 57 := by decide
  exact this d h
theorem hb_pad {n : Int} (h1 : 100 ≤ n) (h2 : n ≤ 599) : (padB n 3).data.toList = [figD (n.natAbs / 100), figD (n.natAbs / 10 % 10), figD (n.natAbs % 10)] := by
  unfold padB
  have ht : textB n = ⟨(figL 10 n.natAbs).toArray⟩ := by unfold textB; rw [if_neg (by omega)]
  have hz : (textB n).size = 3 := by rw [ht, hb_fig h1 h2]; rfl
  rw [if_neg (by omega), hz, show ((min (3 : Int) 20) - ((3 : Nat) : Int)).toNat = 0 from by decide, zerosB_zero, ht, hb_fig h1 h2]
theorem hb_stat_to {s r : ByteArray} {k n : Int} (h : statRes s = ((k, n, r), 0)) : (k = 0 ∨ k = 1) ∧ 100 ≤ n ∧ n ≤ 599 ∧ valL r.data.toList = true ∧ r.size ≤ s.size := by
  cases hF : statForm s
  · rw [statRes_form hF] at h; simp at h
  obtain ⟨k', f, hk⟩ : ∃ k' f, vminor (hd8 s) = (k', f) := ⟨_, _, rfl⟩
  by_cases hf : f = 0
  rotate_left
  · rw [statRes_minor hF hk hf] at h
    exact absurd (Prod.mk.inj h).2 hf
  subst hf
  obtain ⟨a, ha⟩ : ∃ a, numV 10 (mid3 s).data.toList = a := ⟨_, rfl⟩
  by_cases hr : a < 100 ∨ 599 < a
  · rw [statRes_range hF hk ha hr] at h; simp at h
  have hr1 : 100 ≤ a := by omega
  have hr2 : a ≤ 599 := by omega
  cases hv : valL (rest13 s).data.toList
  · rw [statRes_value hF hk ha hr1 hr2 hv] at h; simp at h
  rw [statRes_ok hF hk ha hr1 hr2 hv] at h
  obtain ⟨h1, _⟩ := Prod.mk.inj h
  obtain ⟨rfl, h3⟩ := Prod.mk.inj h1
  obtain ⟨rfl, rfl⟩ := Prod.mk.inj h3
  refine ⟨hb_two hk, hr1, hr2, hv, ?_⟩
  unfold rest13
  simp only [ByteArray.size_extract]
  omega
theorem hb_stat_of {R : ByteArray} {k a : Int} (hk : k = 0 ∨ k = 1) (hr1 : 100 ≤ a) (hr2 : a ≤ 599) (hv : valL R.data.toList = true) : statRes (lineB ⟨#[]⟩ ⟨#[]⟩ k a R) = ((k, a, R), 0) := by
  have hmv := hb_ver hk
  obtain ⟨L, hLe⟩ : ∃ L, L = lineB ⟨#[]⟩ ⟨#[]⟩ k a R := ⟨_, rfl⟩
  have hL := hb_data' (m := ⟨#[]⟩) (t := ⟨#[]⟩) (k := k) (n := a) (r := R) rfl
  rw [← hLe, hb_pad hr1 hr2] at hL
  have hVl : (verB k).data.toList.length = 8 := by rw [hb_sz, verB_size]
  have hLs : L.size = 13 + R.size := by
    rw [← hb_sz, hL]
    simp only [List.length_append, hVl, hb_sz, List.length_cons, List.length_nil]
    omega
  rw [← hLe]
  have g : ∀ i c, (L.data.toList)[i]? = some c → bt L i = (c.toNat : Int) := fun i c hi => by
    have hlt : i < L.size := by
      rcases Nat.lt_or_ge i L.size with h | h
      · exact h
      · rw [List.getElem?_eq_none (by rw [hb_sz]; exact h)] at hi; cases hi
    rw [bt_get L i hlt]
    rw [List.getElem?_eq_getElem (by rw [hb_sz]; exact hlt)] at hi
    have := Option.some.inj hi
    exact congrArg (fun b : UInt8 => (b.toNat : Int)) this
  have gi : ∀ i, 8 ≤ i → L.data.toList[i]? = ([32] ++ ([figD (a.natAbs / 100), figD (a.natAbs / 10 % 10), figD (a.natAbs % 10)] ++ ([32] ++ R.data.toList)))[i - 8]? := fun i hi => by
    rw [hL, List.getElem?_append_right (by omega), hVl]
  have b8 : bt L 8 = 32 := g 8 32 (by rw [gi 8 (by omega)]; rfl)
  have b9 : bt L 9 = ((figD (a.natAbs / 100)).toNat : Int) := g 9 _ (by rw [gi 9 (by omega)]; rfl)
  have b10 : bt L 10 = ((figD (a.natAbs / 10 % 10)).toNat : Int) := g 10 _ (by rw [gi 10 (by omega)]; rfl)
  have b11 : bt L 11 = ((figD (a.natAbs % 10)).toNat : Int) := g 11 _ (by rw [gi 11 (by omega)]; rfl)
  have b12 : bt L 12 = 32 := g 12 32 (by rw [gi 12 (by omega)]; rfl)
  have x1 := hb_dig (a.natAbs / 100) (by omega)
  have x2 := hb_dig (a.natAbs / 10 % 10) (by omega)
  have x3 := hb_dig (a.natAbs % 10) (by omega)
  have e8 : hd8 L = verB k := ext_list (by
    unfold hd8
    rw [Lib.extract_data, hL, List.drop_zero, List.take_left' (by omega)])
  have em : (mid3 L).data.toList = [figD (a.natAbs / 100), figD (a.natAbs / 10 % 10), figD (a.natAbs % 10)] := by
    unfold mid3
    rw [Lib.extract_data, hL, ← List.append_assoc, List.drop_left' (by rw [List.length_append, hVl]; rfl)]
    rfl
  have er : rest13 L = R := ext_list (by
    unfold rest13
    rw [Lib.extract_data, hL, Nat.min_eq_left (by omega), ← List.append_assoc, ← List.append_assoc, ← List.append_assoc, List.drop_left' (by simp only [List.length_append, hVl]; rfl), List.take_of_length_le (by rw [hb_sz]; omega)])
  have hn : numV 10 (mid3 L).data.toList = a := by
    rw [em]
    simp only [numV, List.foldl_cons, List.foldl_nil, x1.1, x2.1, x3.1]
    omega
  have hform : statForm L = true := by
    unfold statForm
    rw [decide_eq_true (by omega), decide_eq_true b8, decide_eq_true b12, e8, hmv.2, b9, b10, b11]
    unfold isDg
    rw [decide_eq_true x1.2, decide_eq_true x2.2, decide_eq_true x3.2]
    simp
  have hmm : vminor (hd8 L) = (k, 0) := by rw [e8]; exact hmv.1
  rw [statRes_ok hform hmm hn hr1 hr2 (by rw [er]; exact hv), er]
/-- No octet ends a line. -/
def noB (l : List UInt8) : Prop := ∀ b ∈ l, b ≠ 10 ∧ b ≠ 13
theorem noB_app {a b : List UInt8} (ha : noB a) (hb : noB b) : noB (a ++ b) := fun x hx => (List.mem_append.1 hx).elim (ha x) (hb x)
theorem noB_tok {l : List UInt8} (h : tokL l = true) : noB l := fun b hb => ⟨hb_tok h (by decide) b hb, hb_tok h (by decide) b hb⟩
theorem noB_vis {l : List UInt8} (h : visL l = true) : noB l := fun b hb => ⟨hb_vis h (by decide) b hb, hb_vis h (by decide) b hb⟩
theorem noB_val {l : List UInt8} (h : valL l = true) : noB l := fun b hb => ⟨hb_val h (by decide) b hb, hb_val h (by decide) b hb⟩
theorem noB_ver {k : Int} (h : k = 0 ∨ k = 1) : noB (verB k).data.toList := by
  rcases h with rfl | rfl
  · show ∀ b ∈ (verB 0).data.toList, b ≠ 10 ∧ b ≠ 13
    decide
  · show ∀ b ∈ (verB 1).data.toList, b ≠ 10 ∧ b ≠ 13
    decide
theorem noB_fig {d : Nat} (h : d < 10) : figD d ≠ 10 ∧ figD d ≠ 13 := by
  have := (hb_dig d h).2.1
  refine ⟨fun e => ?_, fun e => ?_⟩
  · rw [e] at this; exact absurd this (by decide)
  · rw [e] at this; exact absurd this (by decide)
theorem noB_pad {n : Int} (h1 : 100 ≤ n) (h2 : n ≤ 599) : noB (padB n 3).data.toList := by
  rw [hb_pad h1 h2]
  intro b hb
  simp only [List.mem_cons, List.not_mem_nil, or_false] at hb
  rcases hb with rfl | rfl | rfl
  · exact noB_fig (by omega)
  · exact noB_fig (by omega)
  · exact noB_fig (by omega)
theorem noB_32 : noB [32] := by
  show ∀ b ∈ [(32 : UInt8)], b ≠ 10 ∧ b ≠ 13
  decide
/-- A field's line. -/
theorem hb_trim {l : List UInt8} : trimL (trimL l) = trimL l := by
  apply trim_id
  · intro b hb
    unfold trimL at hb
    obtain ⟨t, ht⟩ := List.dropWhile_suffix (l := (l.dropWhile blL).reverse) blL
    rw [List.head?_reverse] at hb
    have : ((l.dropWhile blL).reverse).getLast? = some b := by
      rw [← ht, List.getLast?_append, hb]
      rfl
    rw [List.getLast?_reverse] at this
    have h2 := List.head?_dropWhile_not blL l
    rw [this] at h2
    simpa using h2
  · intro b hb
    unfold trimL at hb
    rw [List.getLast?_reverse] at hb
    have h2 := List.head?_dropWhile_not blL (l.dropWhile blL).reverse
    rw [hb] at h2
    simpa using h2
theorem hb_pre {n : List UInt8} (h : tokL n = true) (r : List UInt8) : preL (n ++ 58 :: r) = n := by
  unfold preL
  have hn := hb_tok h (c := 58) (by decide)
  clear h
  induction n with
  | nil => simp
  | cons b n ih =>
    rw [List.cons_append, List.takeWhile_cons, if_pos (by simpa using hn b (by simp)), ih (fun x hx => hn x (by simp [hx]))]
theorem hb_fline_data (n v : ByteArray) : (flineB n v).data.toList = n.data.toList ++ 58 :: (if v.size = 0 then [] else 32 :: v.data.toList) := by
  unfold flineB
  split <;> simp
theorem hb_fparse {n v : ByteArray} (h : fieldR n v = true) : fparse (flineB n v) = ((n, v), 0) ∧ goesB (flineB n v) = false ∧ noB (flineB n v).data.toList ∧ (flineB n v).data.toList ≠ [] := by
  unfold fieldR at h
  simp only [Bool.and_eq_true] at h
  obtain ⟨h1, h2, h3⟩ := h
  have hd := hb_fline_data n v
  have hv : trimB v = v := by
    have := eq_of_beq h3
    simp only [ByteArray.toList_eq] at this
    exact ext_list this
  obtain ⟨r, hr⟩ : ∃ r, r = (if v.size = 0 then ([] : List UInt8) else 32 :: v.data.toList) := ⟨_, rfl⟩
  rw [← hr] at hd
  have hp : preL (flineB n v).data.toList = n.data.toList := by rw [hd]; exact hb_pre h1 r
  have hdr : (flineB n v).data.toList.drop (n.data.toList.length + 1) = r := by
    rw [hd, List.drop_append]
    simp
  have hsz : (flineB n v).size = n.data.toList.length + 1 + r.length := by
    rw [← hb_sz, hd]; simp; omega
  have hvr : valL r = true := by
    rw [hr]
    split
    · rfl
    · unfold valL at h2 ⊢
      rw [List.all_cons, h2]
      rfl
  have htr : trimB ⟨r.toArray⟩ = v := by
    unfold trimB
    show (⟨(trimL r).toArray⟩ : ByteArray) = v
    rw [hr]
    split
    · rename_i h0
      apply ext_list
      have : v.data.toList = [] := List.eq_nil_of_length_eq_zero (by rw [hb_sz]; exact h0)
      rw [this]
      rfl
    · have := trim_front (p := [32]) v.data.toList (by intro b hb; rw [List.mem_singleton.1 hb]; rfl)
      rw [List.singleton_append] at this
      rw [this]
      exact hv
  refine ⟨?_, ?_, ?_, ?_⟩
  · unfold fparse
    rw [hp, hdr, if_neg (by omega), h1, hvr, htr, if_neg (by decide), if_neg (by decide)]
  · unfold goesB
    rw [hd]
    have hn0 := hb_tok_ne h1
    rw [← hb_sz] at hn0
    cases hc : n.data.toList with
    | nil => rw [hc] at hn0; exact absurd rfl hn0
    | cons b rest =>
      have e1 := hb_tok h1 (c := 32) (by decide) b (by rw [hc]; simp)
      have e2 := hb_tok h1 (c := 9) (by decide) b (by rw [hc]; simp)
      simp [e1, e2]
  · rw [hd]
    refine noB_app (noB_tok h1) (noB_app (a := [58]) (by show ∀ b ∈ [(58 : UInt8)], b ≠ 10 ∧ b ≠ 13; decide) (noB_val hvr))
  · rw [hd]; simp
theorem hb_fparse_to {s : ByteArray} (h : (fparse s).2 = 0) : fieldR (fparse s).1.1 (fparse s).1.2 = true ∧ (fparse s).1.1.size ≤ s.size ∧ (fparse s).1.2.size ≤ s.size := by
  unfold fparse at h ⊢
  split at h
  · cases h
  rename_i h0
  rw [if_neg h0]
  split at h
  · cases h
  rename_i h1
  rw [if_neg h1]
  split at h
  · cases h
  rename_i h2
  rw [if_neg h2]
  have h1 : tokL (preL s.data.toList) = true := by simpa using h1
  have h2 : valL (s.data.toList.drop ((preL s.data.toList).length + 1)) = true := by simpa using h2
  refine ⟨?_, preL_size s, Nat.le_trans (trimB_size _) (post_size s _)⟩
  show fieldR ⟨(preL s.data.toList).toArray⟩ (trimB ⟨(s.data.toList.drop ((preL s.data.toList).length + 1)).toArray⟩) = true
  generalize s.data.toList.drop ((preL s.data.toList).length + 1) = x at h2 ⊢
  unfold fieldR
  have e1 : (trimB ⟨x.toArray⟩).data.toList = trimL x := rfl
  have e2 : trimB (trimB ⟨x.toArray⟩) = trimB ⟨x.toArray⟩ := by
    apply ext_list
    show trimL (trimL x) = trimL x
    exact hb_trim
  rw [e2, e1, h1]
  have h3 : valL (trimL x) = true := by
    unfold valL at h2 ⊢
    rw [List.all_eq_true] at h2 ⊢
    intro b hb
    unfold trimL at hb
    have hb := List.mem_reverse.1 hb
    have hb := (List.dropWhile_sublist blL).subset hb
    have hb := List.mem_reverse.1 hb
    exact h2 b ((List.dropWhile_sublist blL).subset hb)
  rw [h3]
  simp
theorem ufold_all (fold : Int) : ∀ (l out : List ByteArray), (∀ s ∈ l, goesB s = false) → l.foldl (ufStep fold) (some out) = some (out ++ l)
  | [], out, _ => by simp
  | s :: l, out, h => by
    rw [List.foldl_cons]
    have : ufStep fold (some out) s = some (out ++ [s]) := by
      unfold ufStep
      simp only
      rw [if_pos (h s (by simp))]
    rw [this, ufold_all fold l _ (fun x hx => h x (by simp [hx]))]
    simp
theorem hb_all (l : List Fd) (h : allR l = true) : allF 0 (l.map fun f => flineB f.1 f.2) = (l, 0) := by
  unfold allR at h
  rw [List.all_eq_true] at h
  have hu : ufold 0 (l.map fun f => flineB f.1 f.2) = some (l.map fun f => flineB f.1 f.2) := by
    unfold ufold
    rw [ufold_all 0 _ [] (fun s hs => by
      obtain ⟨f, hf, rfl⟩ := List.mem_map.1 hs
      exact (hb_fparse (h f hf)).2.1)]
    simp
  unfold allF
  rw [hu]
  show pAcc (l.map fun f => flineB f.1 f.2) = (l, 0)
  rw [pAcc_ok _ (fun k hk => by
    rw [List.getElem_map]
    rw [(hb_fparse (h _ (List.getElem_mem _))).1])]
  have : (l.map fun f => flineB f.1 f.2).map (fun s => (fparse s).1) = l := by
    rw [List.map_map]
    conv => rhs; rw [← List.map_id l]
    apply List.map_congr_left
    intro f hf
    show (fparse (flineB f.1 f.2)).1 = f
    rw [(hb_fparse (h f hf)).1]
  rw [this]
theorem pAcc_right : ∀ (l : List ByteArray), (pAcc l).2 = 0 → ∀ B, (∀ s ∈ l, s.size ≤ B) → allR (pAcc l).1 = true ∧ ∀ g ∈ (pAcc l).1, g.1.size ≤ B ∧ g.2.size ≤ B
  | [], _, _, _ => ⟨rfl, fun g hg => by cases hg⟩
  | s :: l, h, B, hB => by
    unfold pAcc at h ⊢
    split at h
    · rename_i h0; exact absurd h h0
    rename_i h0
    rw [if_neg h0]
    split at h
    · rename_i h1; exact absurd h h1
    rename_i h1
    rw [if_neg h1]
    obtain ⟨i1, i2⟩ := pAcc_right l (Decidable.byContradiction h1) B (fun s hs => hB s (by simp [hs]))
    obtain ⟨f1, f2, f3⟩ := hb_fparse_to (Decidable.byContradiction h0)
    have := hB s (by simp)
    refine ⟨?_, fun g hg => ?_⟩
    · unfold allR at i1 ⊢
      rw [List.all_cons, f1, i1]
      rfl
    · rcases List.mem_cons.1 hg with rfl | hg
      · exact ⟨Nat.le_trans f2 this, Nat.le_trans f3 this⟩
      · exact i2 g hg
theorem allF_right (fold : Int) (l : List ByteArray) (h : (allF fold l).2 = 0) (B : Nat) (hB : tot l + l.length ≤ B) : allR (allF fold l).1 = true ∧ ∀ g ∈ (allF fold l).1, g.1.size ≤ B ∧ g.2.size ≤ B := by
  unfold allF at h ⊢
  cases hu : ufold fold l with
  | none => rw [hu] at h; cases h
  | some out =>
    rw [hu] at h
    refine pAcc_right out h B (fun s hs => Nat.le_trans (ufold_le (k := l.length) (fold := fold) (l := l) (Nat.le_refl _) (by rw [List.take_length]; exact hu) hs) hB)
/-- What Parse answers is right. -/
theorem headP_right (kind fields fold : Int) (l : List ByteArray) (h : (headP kind fields fold l).2 = 0) (B : Nat) (hB : tot l + l.length ≤ B) :
    rightP (headP kind fields fold l).1.m (headP kind fields fold l).1.t (headP kind fields fold l).1.k (headP kind fields fold l).1.n (headP kind fields fold l).1.r (headP kind fields fold l).1.fs = true ∧ (headP kind fields fold l).1.m.size ≤ B ∧ (headP kind fields fold l).1.t.size ≤ B ∧ (headP kind fields fold l).1.r.size ≤ B ∧ ∀ g ∈ (headP kind fields fold l).1.fs, g.1.size ≤ B ∧ g.2.size ≤ B := by
  unfold headP at h ⊢
  by_cases hk : kind ≠ 1 ∧ kind ≠ 2
  · rw [if_pos hk] at h; cases h
  rw [if_neg hk] at h ⊢
  cases l with
  | nil => cases h
  | cons s rest =>
    rw [tot_cons, List.length_cons] at hB
    simp only at h ⊢
    split at h
    · rename_i h0; exact absurd h h0
    rename_i h0
    rw [if_neg h0]
    split at h
    · cases h
    rename_i h1
    rw [if_neg h1]
    split at h
    · rename_i h2; exact absurd h h2
    rename_i h2
    rw [if_neg h2]
    obtain ⟨a1, a2⟩ := allF_right fold rest (Decidable.byContradiction h2) B (by omega)
    have h0 : (firstP kind s).2 = 0 := Decidable.byContradiction h0
    simp only
    generalize (allF fold rest).1 = fs at a1 a2 ⊢
    unfold firstP at h0 ⊢
    by_cases k1 : kind = 1
    · rw [if_pos k1] at h0 ⊢
      simp only at h0 ⊢
      rcases hq : reqRes s with ⟨⟨m, t, k⟩, e⟩
      rw [hq] at h0
      have h0 : e = 0 := h0
      subst h0
      obtain ⟨b1, b2, b3, b4, b5⟩ := hb_req_to hq
      simp only
      refine ⟨?_, by omega, by omega, Nat.zero_le _, a2⟩
      unfold rightP reqR
      rw [b1, b2, a1]
      have hem : (⟨#[]⟩ : ByteArray).toList.isEmpty = true := by rw [isEmpty_list]; rfl
      rw [hem]
      rcases b3 with rfl | rfl <;> simp
    · rw [if_neg k1] at h0 ⊢
      simp only at h0 ⊢
      rcases hq : statRes s with ⟨⟨k, n, r⟩, e⟩
      rw [hq] at h0
      have h0 : e = 0 := h0
      subst h0
      obtain ⟨b1, b2, b3, b4, b5⟩ := hb_stat_to hq
      simp only
      refine ⟨?_, Nat.zero_le _, Nat.zero_le _, by omega, a2⟩
      unfold rightP rspR
      rw [b4, a1, decide_eq_true b2, decide_eq_true b3]
      rcases b1 with rfl | rfl <;> simp
/-- A parser that has ended holds what its lines are. -/
def PaEnd (kind fields fold : Int) (p : PaS) : Prop := p.fin = true → p.hd = (headP kind fields fold p.all).1 ∧ p.e = (headP kind fields fold p.all).2
theorem pRun_end (kind fields fold : Int) : ∀ (l : List UInt8) (p : PaS), PaEnd kind fields fold p → PaEnd kind fields fold (pRun kind fields fold l p).1
  | [], p, h => h
  | c :: r, p, h => by
    rw [pRun]
    split
    · exact h
    rename_i h0
    split
    · refine pRun_end kind fields fold r _ ?_
      unfold pTake
      split
      · unfold lineP
        split
        · intro hf; exact absurd (Or.inl hf) h0
        split
        · intro _; exact ⟨rfl, rfl⟩
        · intro hf; exact absurd (Or.inl hf) h0
      · intro hf; exact absurd (Or.inl hf) h0
    · intro hf; exact absurd (Or.inl hf) h0
/-- What is read is right. -/
theorem pRun_right (kind fields fold : Int) (l : List UInt8) (a : Int) (hb : PaBd (pRun kind fields fold l (pa0 a)).1) (hf : ((pRun kind fields fold l (pa0 a)).1.fin && (pRun kind fields fold l (pa0 a)).1.e == 0) = true) :
    rightP (pRun kind fields fold l (pa0 a)).1.hd.m (pRun kind fields fold l (pa0 a)).1.hd.t (pRun kind fields fold l (pa0 a)).1.hd.k (pRun kind fields fold l (pa0 a)).1.hd.n (pRun kind fields fold l (pa0 a)).1.hd.r (pRun kind fields fold l (pa0 a)).1.hd.fs = true ∧ (pRun kind fields fold l (pa0 a)).1.hd.m.size ≤ 1000000 ∧ (pRun kind fields fold l (pa0 a)).1.hd.t.size ≤ 1000000 ∧ (pRun kind fields fold l (pa0 a)).1.hd.r.size ≤ 1000000 ∧ ∀ g ∈ (pRun kind fields fold l (pa0 a)).1.hd.fs, g.1.size ≤ 1000000 ∧ g.2.size ≤ 1000000 := by
  have he := pRun_end kind fields fold l (pa0 a) (fun h => by cases h)
  obtain ⟨t1, t2⟩ := hb.all
  generalize (pRun kind fields fold l (pa0 a)).1 = p at he hf t1 t2 ⊢
  rw [Bool.and_eq_true] at hf
  obtain ⟨e1, e2⟩ := he hf.1
  rw [e1]
  exact headP_right kind fields fold p.all (by rw [← e2]; exact eq_of_beq hf.2) 1000000 (by omega)
/-- Lines written out. -/
def encL (ls : List (List UInt8)) : List UInt8 := ls.flatMap fun x => x ++ [13, 10]
theorem encL_cons (x : List UInt8) (ls : List (List UInt8)) : encL (x :: ls) = x ++ 13 :: 10 :: encL ls := by unfold encL; simp
theorem encL_append (a b : List (List UInt8)) : encL (a ++ b) = encL a ++ encL b := by unfold encL; rw [List.flatMap_append]
theorem encL_length (ls : List (List UInt8)) : (encL ls).length = lsum ls := by
  induction ls with
  | nil => rfl
  | cons x ls ih =>
    rw [encL_cons]
    simp only [List.length_append, List.length_cons, ih]
    unfold lsum
    simp
    omega
theorem rdL_text (most : Int) : ∀ (x r : List UInt8) (i : Nat) (cur : List UInt8), noB x → (i : Int) + x.length ≤ most → rdL most (x ++ r) i cur false = rdL most r (i + x.length) (cur ++ x) false
  | [], r, i, cur, _, _ => by simp
  | c :: x, r, i, cur, h, hm => by
    obtain ⟨h1, h2⟩ := h c (by simp)
    rw [List.length_cons] at hm
    rw [List.cons_append, rdL, if_neg (by omega), if_neg (by rw [decide_eq_false h1]; simp), if_neg h2, if_neg h1, rdL_text most x r (i + 1) (cur ++ [c]) (fun b hb => h b (by simp [hb])) (by omega)]
    rw [List.append_assoc, List.length_cons, Nat.add_assoc, Nat.add_comm 1]
    rfl
theorem rdL_line (most : Int) (x r : List UInt8) (i : Nat) (h : noB x) (hm : (i : Int) + x.length + 2 ≤ most) : rdL most (x ++ 13 :: 10 :: r) i [] false = (x :: (rdL most r (i + (x.length + 2)) [] false).1, (rdL most r (i + (x.length + 2)) [] false).2) := by
  rw [rdL_text most x _ i [] h (by omega), rdL, if_neg (by omega), if_neg (by decide), if_pos rfl, rdL, if_neg (by omega), if_neg (by decide), if_neg (by decide), if_pos rfl, List.nil_append]
  rfl
theorem rdL_enc (most : Int) : ∀ (ls : List (List UInt8)) (r : List UInt8) (i : Nat), (∀ x ∈ ls, noB x) → (i : Int) + lsum ls ≤ most → rdL most (encL ls ++ r) i [] false = (ls ++ (rdL most r (i + lsum ls) [] false).1, (rdL most r (i + lsum ls) [] false).2)
  | [], r, i, _, _ => by simp [encL, lsum]
  | x :: ls, r, i, h, hm => by
    have e : lsum (x :: ls) = x.length + 2 + lsum ls := by unfold lsum; simp
    rw [e] at hm ⊢
    rw [encL_cons, List.append_assoc, List.cons_append, List.cons_append, rdL_line most x _ i (h x (by simp)) (by omega), rdL_enc most ls r _ (fun y hy => h y (by simp [hy])) (by omega), Nat.add_assoc]
    rfl
theorem scanP_all (kind fields fold : Int) : ∀ (ls : List (List UInt8)) (r : List (List UInt8)) (at_ : Nat) (got : List ByteArray), (∀ x ∈ ls, x ≠ []) → got ++ ls.map strL ≠ [] → scanP kind fields fold (ls ++ [] :: r) at_ got = (some (headP kind fields fold (got ++ ls.map strL), at_ + (lsum ls + 2)), got ++ ls.map strL)
  | [], r, at_, got, _, hn => by
    rw [List.map_nil, List.append_nil] at hn ⊢
    rw [List.nil_append, scanP, if_neg (by simp), if_pos (Or.inl hn)]
    rfl
  | x :: ls, r, at_, got, h, hn => by
    have e : lsum (x :: ls) = x.length + 2 + lsum ls := by unfold lsum; simp
    rw [List.cons_append, scanP, if_pos (h x (by simp)), scanP_all kind fields fold ls r _ _ (fun y hy => h y (by simp [hy])) (by simp), e]
    rw [show at_ + x.length + 2 + (lsum ls + 2) = at_ + (x.length + 2 + lsum ls + 2) by omega]
    simp only [List.append_assoc, List.map_cons, List.singleton_append]
theorem printA_enc (l : List Fd) : ∀ o : ByteArray, (printA o l).data.toList = o.data.toList ++ encL (l.map fun f => (flineB f.1 f.2).data.toList) := by
  induction l with
  | nil => intro o; simp [printA, encL]
  | cons f l ih =>
    intro o
    have : printA o (f :: l) = printA (o ++ frow f) l := rfl
    rw [this, ih, List.map_cons, encL_cons]
    unfold frow crlf
    simp
theorem printB_enc (m t r : ByteArray) (k n : Int) (l : List Fd) : (printB m t k n r l).data.toList = encL (((lineB m t k n r).data.toList :: l.map fun f => (flineB f.1 f.2).data.toList) ++ [[]]) := by
  unfold printB
  have : ∀ a b : ByteArray, (a ++ b).data.toList = a.data.toList ++ b.data.toList := fun a b => by simp
  rw [this, printA_enc, this, encL_append, encL_cons]
  unfold crlf
  simp [encL]
theorem strL_data (b : ByteArray) : strL b.data.toList = b := by unfold strL; apply ext_list; rfl
/-- A right head's first line. -/
theorem line_right {m t r : ByteArray} {k n : Int} (h : (reqR m t n r || rspR m t n r) = true) (hk : k = 0 ∨ k = 1) : noB (lineB m t k n r).data.toList ∧ (lineB m t k n r).data.toList ≠ [] ∧ firstP (if m.size ≠ 0 then 1 else 2) (lineB m t k n r) = (⟨m, t, k, n, r, []⟩, 0) := by
  rw [Bool.or_eq_true] at h
  have hnil : ∀ b : ByteArray, b.toList.isEmpty = true → b = ⟨#[]⟩ := fun b hb => by
    apply ext_list
    rw [empty_list2, decide_eq_true_eq] at hb
    exact List.eq_nil_of_length_eq_zero (by rw [hb_sz]; exact hb)
  rcases h with h | h
  · unfold reqR at h
    simp only [Bool.and_eq_true] at h
    obtain ⟨h1, h2, h3, h4⟩ := h
    have h3 : n = 0 := eq_of_beq h3
    have h4 := hnil r h4
    subst h3 h4
    have hm := hb_tok_ne h1
    refine ⟨?_, ?_, ?_⟩
    · rw [hb_data hm]
      exact noB_app (noB_tok h1) (noB_app noB_32 (noB_app (noB_vis h2) (noB_app noB_32 (noB_ver hk))))
    · rw [hb_data hm]; simp
    · rw [if_pos hm]
      unfold firstP
      rw [if_pos rfl, hb_req_of h1 h2 hk]
  · unfold rspR at h
    simp only [Bool.and_eq_true, decide_eq_true_eq] at h
    obtain ⟨h1, h2, h3, h4, h5⟩ := h
    have h1 := hnil m h1
    have h2 := hnil t h2
    subst h1 h2
    refine ⟨?_, ?_, ?_⟩
    · rw [hb_data' rfl]
      exact noB_app (noB_ver hk) (noB_app noB_32 (noB_app (noB_pad h3 h4) (noB_app noB_32 (noB_val h5))))
    · rw [hb_data' rfl]; simp
    · rw [if_neg (by decide)]
      unfold firstP
      rw [if_neg (by decide), hb_stat_of hk h3 h4 h5]
/-- A right head comes back. -/
theorem back_plain (m t r : ByteArray) (k n : Int) (l : List Fd) (h : rightP m t k n r l = true) (hl : l.length ≤ 1000) (hz : (printB m t k n r l).size ≤ 65000) :
    (pRun (if m.size ≠ 0 then 1 else 2) 1000 0 ((printB m t k n r l).data.toList ++ [120]) (pa0 65536)).2 = (printB m t k n r l).size ∧ (pRun (if m.size ≠ 0 then 1 else 2) 1000 0 ((printB m t k n r l).data.toList ++ [120]) (pa0 65536)).1.fin = true ∧ (pRun (if m.size ≠ 0 then 1 else 2) 1000 0 ((printB m t k n r l).data.toList ++ [120]) (pa0 65536)).1.e = 0 ∧ (pRun (if m.size ≠ 0 then 1 else 2) 1000 0 ((printB m t k n r l).data.toList ++ [120]) (pa0 65536)).1.hd = ⟨m, t, k, n, r, l⟩ := by
  unfold rightP at h
  simp only [Bool.and_eq_true] at h
  obtain ⟨h1, h2, h3⟩ := h
  have hk : k = 0 ∨ k = 1 := by
    rw [Bool.or_eq_true] at h2
    rcases h2 with h2 | h2
    · exact Or.inl (eq_of_beq h2)
    · exact Or.inr (eq_of_beq h2)
  obtain ⟨f1, f2, f3⟩ := line_right (k := k) h1 hk
  obtain ⟨kind, hkd⟩ : ∃ kind : Int, kind = if m.size ≠ 0 then 1 else 2 := ⟨_, rfl⟩
  rw [← hkd] at f3 ⊢
  have hkk : kind = 1 ∨ kind = 2 := by rw [hkd]; split; exact Or.inl rfl; exact Or.inr rfl
  have hp := printB_enc m t r k n l
  obtain ⟨P, hP⟩ : ∃ P, P = printB m t k n r l := ⟨_, rfl⟩
  rw [← hP] at hp hz ⊢
  have hal := hb_all l h3
  unfold allR at h3
  rw [List.all_eq_true] at h3
  obtain ⟨ls, hls⟩ : ∃ ls, ls = (lineB m t k n r).data.toList :: l.map fun f => (flineB f.1 f.2).data.toList := ⟨_, rfl⟩
  rw [← hls] at hp
  have hno : ∀ x ∈ ls, noB x ∧ x ≠ [] := by
    intro x hx
    rw [hls] at hx
    rcases List.mem_cons.1 hx with rfl | hx
    · exact ⟨f1, f2⟩
    · obtain ⟨f, hf, rfl⟩ := List.mem_map.1 hx
      exact ⟨(hb_fparse (h3 f hf)).2.2.1, (hb_fparse (h3 f hf)).2.2.2⟩
  have hst : ls.map strL = lineB m t k n r :: l.map fun f => flineB f.1 f.2 := by
    rw [hls, List.map_cons, strL_data, List.map_map]
    rfl
  have hlen : P.size = lsum ls + 2 := by
    rw [← hb_sz, hp, encL_length]
    unfold lsum
    simp
  have hH : headP kind 1000 0 (ls.map strL) = (⟨m, t, k, n, r, l⟩, 0) := by
    rw [hst]
    unfold headP
    rw [if_neg (by omega)]
    simp only
    rw [f3, if_neg (by simp), if_neg (by rw [List.length_map]; omega), hal, if_neg (by simp)]
  have hr := pRun_rd kind 1000 0 65536 (P.data.toList ++ [120]) 0 0 0 [] false [] hd0 rfl
  have h0 : (⟨⟨65536 - ((0 : Nat) : Int), 0, [], !([] : List UInt8).isEmpty || false, false, false, 0⟩, [], false, hd0, 0⟩ : PaS) = pa0 65536 := by
    unfold pa0 ln0
    simp
  rw [h0] at hr
  have hrd : (rdL 65536 (P.data.toList ++ [120]) 0 [] false).1 = ls ++ [] :: [] := by
    rw [hp, rdL_enc 65536 (ls ++ [[]]) [120] 0 (fun x hx => by
      rcases List.mem_append.1 hx with hx | hx
      · exact (hno x hx).1
      · rw [List.mem_singleton.1 hx]; intro b hb; cases hb) (by
      have : lsum (ls ++ [[]]) = lsum ls + 2 := by unfold lsum; simp
      rw [this]; omega)]
    have : lsum (ls ++ [[]]) = lsum ls + 2 := by unfold lsum; simp
    rw [this]
    show (ls ++ [[]]) ++ (rdL 65536 [120] (0 + (lsum ls + 2)) [] false).1 = _
    rw [rdL, if_neg (by omega), if_neg (by decide), if_neg (by decide), if_neg (by decide), rdL]
    simp
  rw [hrd, scanP_all kind 1000 0 ls [] 0 [] (fun x hx => (hno x hx).2) (by rw [hst]; simp), List.nil_append, hH] at hr
  obtain ⟨r1, r2, r3, r4⟩ := hr
  exact ⟨by omega, r1, r3, r2⟩
end Go.Proofs.YtbglakhojbhfbaaGreatDoor

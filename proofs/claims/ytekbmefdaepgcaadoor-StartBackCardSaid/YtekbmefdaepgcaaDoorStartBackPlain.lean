/- Layer 15: what is read comes back from its line, in plain terms. -/
import Derived.Test.YtekbmefdaepgcaaDoorStartLaw
import Derived.Test.YtekbmefdaepgcaaDoorLine
namespace Go.Proofs.YtekbmefdaepgcaaDoor
open Go.RowKit
theorem bytes_eq {a b : ByteArray} (h : a.data.toList = b.data.toList) : a = b := by
  apply ByteArray.ext
  exact Array.toList_inj.1 h
theorem posL_none (c : UInt8) : ∀ (l : List UInt8) (o : Nat), (∀ b ∈ l, b ≠ c) → posL c o l = []
  | [], _, _ => rfl
  | b :: l, o, h => by rw [posL_cons_ne (h b (by simp)), posL_none c l (o + 1) (fun x hx => h x (by simp [hx]))]
theorem tok_no {l : List UInt8} (h : tokL l = true) : ∀ b ∈ l, b ≠ 32 := by
  intro b hb e
  unfold tokL at h
  rw [Bool.and_eq_true, List.all_eq_true] at h
  have := h.2 b hb
  rw [e] at this
  exact absurd this (by decide)
theorem vis_no {l : List UInt8} (h : visL l = true) : ∀ b ∈ l, b ≠ 32 := by
  intro b hb e
  unfold visL at h
  rw [Bool.and_eq_true, List.all_eq_true] at h
  have := h.2 b hb
  rw [e] at this
  exact absurd this (by decide)
theorem minor_two {V : ByteArray} {k : Int} (h : vminor V = (k, 0)) : k = 0 ∨ k = 1 := by
  unfold vminor at h
  split at h
  · simp at h
  · split at h
    · split at h <;> simp only [Prod.mk.injEq] at h <;> omega
    · simp at h
theorem minor_ver {k : Int} (h : k = 0 ∨ k = 1) : vminor (verB k) = (k, 0) ∧ vform (verB k) = true := by
  rcases h with rfl | rfl
  · exact ⟨by decide +kernel, by decide +kernel⟩
  · exact ⟨by decide +kernel, by decide +kernel⟩
theorem lineB_data {m t r : ByteArray} {k n : Int} (h : m.size ≠ 0) : (lineB m t k n r).data.toList = m.data.toList ++ ([32] ++ (t.data.toList ++ ([32] ++ (verB k).data.toList))) := by
  unfold lineB
  rw [if_neg h]
  simp [sp1]
theorem lineB_data' {m t r : ByteArray} {k n : Int} (h : m.size = 0) : (lineB m t k n r).data.toList = (verB k).data.toList ++ ([32] ++ ((padB n 3).data.toList ++ ([32] ++ r.data.toList))) := by
  unfold lineB
  rw [if_pos h]
  simp [sp1]
theorem bsz (b : ByteArray) : b.data.toList.length = b.size := by simp
theorem lineB_size {m t r : ByteArray} {k n : Int} (h : m.size ≠ 0) : (lineB m t k n r).size = m.size + t.size + 10 := by
  rw [← bsz, lineB_data h]
  have := verB_size k
  rw [← bsz] at this
  simp only [List.length_append, this, bsz, List.length_cons, List.length_nil]
  omega
theorem back_req {s m t : ByteArray} {k : Int} (h : reqRes s = ((m, t, k), 0)) (hs : s.size ≤ 1000) : reqRes (lineB m t k 0 ⟨#[]⟩) = ((m, t, k), 0) ∧ m.size ≠ 0 ∧ (lineB m t k 0 ⟨#[]⟩).size ≤ 1000 ∧ m.size ≤ 1000 ∧ t.size ≤ 1000 := by
  by_cases h2 : (posL 32 0 s.data.toList).length = 2
  rotate_left
  · rw [reqRes_form h2] at h; simp at h
  obtain ⟨a, b, hab⟩ : ∃ a b, posL 32 0 s.data.toList = [a, b] := by
    match hq : posL 32 0 s.data.toList, h2 with
    | [a, b], _ => exact ⟨a, b, rfl⟩
  obtain ⟨hlt1, hlt2, _⟩ := split_two hab
  rw [reqRes_two hab] at h
  cases ht : tokL (s.extract 0 a).data.toList
  · rw [ht, if_pos rfl] at h; simp at h
  rw [ht, if_neg (by decide)] at h
  cases hv : visL (s.extract (a + 1) b).data.toList
  · rw [hv, if_pos rfl] at h; simp at h
  rw [hv, if_neg (by decide)] at h
  obtain ⟨k', f, hk⟩ : ∃ k' f, vminor (s.extract (b + 1) s.size) = (k', f) := ⟨_, _, rfl⟩
  rw [hk] at h
  by_cases hf : f = 0
  rotate_left
  · rw [if_pos hf] at h
    have := (Prod.mk.inj h).2
    exact absurd this hf
  subst hf
  rw [if_neg (by simp)] at h
  obtain ⟨h1, _⟩ := Prod.mk.inj h
  obtain ⟨rfl, h3⟩ := Prod.mk.inj h1
  obtain ⟨rfl, h4⟩ := Prod.mk.inj h3
  have h4 : k' = k := h4
  subst h4
  have hV : (s.extract (b + 1) s.size).size = 8 := by
    have hvf : vform (s.extract (b + 1) s.size) = true := by
      cases hvf : vform (s.extract (b + 1) s.size)
      · rw [vminor_form hvf] at hk; simp at hk
      · rfl
    exact vform_size hvf
  obtain ⟨M, hM⟩ : ∃ M, M = s.extract 0 a := ⟨_, rfl⟩
  obtain ⟨T, hT⟩ : ∃ T, T = s.extract (a + 1) b := ⟨_, rfl⟩
  have hMs : M.size = a := by rw [hM]; simp; omega
  have hTs : T.size = b - (a + 1) := by rw [hT]; simp; omega
  simp only [ByteArray.size_extract] at hV
  rw [← hM] at ht ⊢
  rw [← hT] at hv ⊢
  have hm0 : M.size ≠ 0 := by
    intro h0
    unfold tokL at ht
    rw [Bool.and_eq_true] at ht
    have : M.data.toList = [] := List.eq_nil_of_length_eq_zero (by rw [bsz]; exact h0)
    rw [this] at ht
    exact absurd ht.1 (by decide)
  have hL := lineB_data (m := M) (t := T) (k := k') (n := 0) (r := ⟨#[]⟩) hm0
  have hLs := lineB_size (m := M) (t := T) (k := k') (n := 0) (r := ⟨#[]⟩) hm0
  obtain ⟨L, hLe⟩ : ∃ L, L = lineB M T k' 0 ⟨#[]⟩ := ⟨_, rfl⟩
  rw [← hLe] at hL hLs ⊢
  have hmv := minor_ver (minor_two hk)
  have hver : ∀ b ∈ (verB k').data.toList, b ≠ 32 := by
    rcases minor_two hk with rfl | rfl <;> decide
  have hpos : posL 32 0 L.data.toList = [M.size, M.size + 1 + T.size] := by
    rw [hL, posL_append, posL_none 32 _ _ (tok_no ht), bsz, List.nil_append, Nat.zero_add, List.singleton_append, posL_cons_eq, posL_append, posL_none 32 _ _ (vis_no hv), bsz, List.nil_append, List.singleton_append, posL_cons_eq, posL_none 32 _ _ hver]
  have e1 : L.extract 0 M.size = M := bytes_eq (by
    rw [Lib.extract_data, hL, List.drop_zero, Nat.sub_zero, ← bsz M, List.take_left'] <;> rfl)
  have e2 : L.extract (M.size + 1) (M.size + 1 + T.size) = T := bytes_eq (by
    rw [Lib.extract_data, hL, ← List.append_assoc, List.drop_left' (by simp), Nat.add_sub_cancel_left, ← bsz T, List.take_left'] <;> rfl)
  have e3 : L.extract (M.size + 1 + T.size + 1) L.size = verB k' := bytes_eq (by
    rw [Lib.extract_data, hL, ← List.append_assoc, ← List.append_assoc, ← List.append_assoc, List.drop_left' (by simp; omega)]
    apply List.take_of_length_le
    rw [bsz, verB_size]; omega)
  refine ⟨?_, hm0, by omega, by omega, by omega⟩
  rw [reqRes_two hpos, e1, e2, e3, ht, hv, hmv.1]
  rfl
theorem fig_three {n : Int} (h1 : 100 ≤ n) (h2 : n ≤ 599) : figL 10 n.natAbs = [figD (n.natAbs / 100), figD (n.natAbs / 10 % 10), figD (n.natAbs % 10)] := by
  rw [figL_high (by decide) (by omega), figL_high (b := 10) (n := n.natAbs / 10) (by decide) (by omega), figL_low (by omega), Nat.div_div_eq_div_mul]
  rfl
theorem fig_dig (d : Nat) (h : d < 10) : digV (figD d).toNat = d ∧ 48 ≤ ((figD d).toNat : Int) ∧ ((figD d).toNat : Int) ≤ 57 := by
  have : ∀ d, d < 10 → digV (figD d).toNat = d ∧ 48 ≤ ((figD d).toNat : Int) ∧ ((figD d).toNat : Int) ≤ 57 := by decide
  exact this d h
theorem pad_three {n : Int} (h1 : 100 ≤ n) (h2 : n ≤ 599) : (padB n 3).data.toList = [figD (n.natAbs / 100), figD (n.natAbs / 10 % 10), figD (n.natAbs % 10)] := by
  unfold padB
  have ht : textB n = ⟨(figL 10 n.natAbs).toArray⟩ := by unfold textB; rw [if_neg (by omega)]
  have hz : (textB n).size = 3 := by rw [ht, fig_three h1 h2]; rfl
  rw [if_neg (by omega), hz, show ((min (3 : Int) 20) - ((3 : Nat) : Int)).toNat = 0 from by decide, zerosB_zero, ht, fig_three h1 h2]
theorem back_stat {s r : ByteArray} {k n : Int} (h : statRes s = ((k, n, r), 0)) (hs : s.size ≤ 1000) : statRes (lineB ⟨#[]⟩ ⟨#[]⟩ k n r) = ((k, n, r), 0) ∧ 100 ≤ n ∧ n ≤ 599 ∧ (lineB ⟨#[]⟩ ⟨#[]⟩ k n r).size ≤ 1000 ∧ r.size ≤ 1000 := by
  cases hF : statForm s
  · rw [statRes_form hF] at h; simp at h
  obtain ⟨k', f, hk⟩ : ∃ k' f, vminor (hd8 s) = (k', f) := ⟨_, _, rfl⟩
  by_cases hf : f = 0
  rotate_left
  · rw [statRes_minor hF hk hf] at h
    exact absurd (Prod.mk.inj h).2 hf
  subst hf
  obtain ⟨a, ha⟩ : ∃ a, numV 10 (mid3 s).data.toList = a := ⟨_, rfl⟩
  by_cases hr : a < 100 ∨ 599 < a
  · rw [statRes_range hF hk ha hr] at h; simp at h
  have hr1 : 100 ≤ a := by omega
  have hr2 : a ≤ 599 := by omega
  cases hv : valL (rest13 s).data.toList
  · rw [statRes_value hF hk ha hr1 hr2 hv] at h; simp at h
  rw [statRes_ok hF hk ha hr1 hr2 hv] at h
  obtain ⟨h1, _⟩ := Prod.mk.inj h
  obtain ⟨rfl, h3⟩ := Prod.mk.inj h1
  obtain ⟨rfl, rfl⟩ := Prod.mk.inj h3
  have h12 : 12 ≤ s.size := by
    unfold statForm at hF
    rw [Bool.and_eq_true, decide_eq_true_eq] at hF
    exact hF.1
  obtain ⟨R, hR⟩ : ∃ R, R = rest13 s := ⟨_, rfl⟩
  have hRs : R.size ≤ s.size - 13 := by rw [hR]; unfold rest13; simp; omega
  rw [← hR] at hv ⊢
  have hmv := minor_ver (minor_two hk)
  obtain ⟨L, hLe⟩ : ∃ L, L = lineB ⟨#[]⟩ ⟨#[]⟩ k' a R := ⟨_, rfl⟩
  have hL := lineB_data' (m := ⟨#[]⟩) (t := ⟨#[]⟩) (k := k') (n := a) (r := R) rfl
  rw [← hLe, pad_three hr1 hr2] at hL
  have hVl : (verB k').data.toList.length = 8 := by rw [bsz, verB_size]
  have hLs : L.size = 13 + R.size := by
    rw [← bsz, hL]
    simp only [List.length_append, hVl, bsz, List.length_cons, List.length_nil]
    omega
  rw [← hLe]
  refine ⟨?_, hr1, hr2, by omega, by omega⟩
  have g : ∀ i c, (L.data.toList)[i]? = some c → bt L i = (c.toNat : Int) := fun i c hi => by
    have hlt : i < L.size := by
      rcases Nat.lt_or_ge i L.size with h | h
      · exact h
      · rw [List.getElem?_eq_none (by rw [bsz]; exact h)] at hi; cases hi
    rw [bt_get L i hlt]
    rw [List.getElem?_eq_getElem (by rw [bsz]; exact hlt)] at hi
    have := Option.some.inj hi
    exact congrArg (fun b : UInt8 => (b.toNat : Int)) this
  have gi : ∀ i, 8 ≤ i → L.data.toList[i]? = ([32] ++ ([figD (a.natAbs / 100), figD (a.natAbs / 10 % 10), figD (a.natAbs % 10)] ++ ([32] ++ R.data.toList)))[i - 8]? := fun i hi => by
    rw [hL, List.getElem?_append_right (by omega), hVl]
  have b8 : bt L 8 = 32 := g 8 32 (by rw [gi 8 (by omega)]; rfl)
  have b9 : bt L 9 = ((figD (a.natAbs / 100)).toNat : Int) := g 9 _ (by rw [gi 9 (by omega)]; rfl)
  have b10 : bt L 10 = ((figD (a.natAbs / 10 % 10)).toNat : Int) := g 10 _ (by rw [gi 10 (by omega)]; rfl)
  have b11 : bt L 11 = ((figD (a.natAbs % 10)).toNat : Int) := g 11 _ (by rw [gi 11 (by omega)]; rfl)
  have b12 : bt L 12 = 32 := g 12 32 (by rw [gi 12 (by omega)]; rfl)
  have x1 := fig_dig (a.natAbs / 100) (by omega)
  have x2 := fig_dig (a.natAbs / 10 % 10) (by omega)
  have x3 := fig_dig (a.natAbs % 10) (by omega)
  have e8 : hd8 L = verB k' := bytes_eq (by
    unfold hd8
    rw [Lib.extract_data, hL, List.drop_zero, List.take_left' (by omega)])
  have em : (mid3 L).data.toList = [figD (a.natAbs / 100), figD (a.natAbs / 10 % 10), figD (a.natAbs % 10)] := by
    unfold mid3
    rw [Lib.extract_data, hL, ← List.append_assoc, List.drop_left' (by rw [List.length_append, hVl]; rfl)]
    rfl
  have er : rest13 L = R := bytes_eq (by
    unfold rest13
    rw [Lib.extract_data, hL, Nat.min_eq_left (by omega), ← List.append_assoc, ← List.append_assoc, ← List.append_assoc, List.drop_left' (by simp only [List.length_append, hVl]; rfl), List.take_of_length_le (by rw [bsz]; omega)])
  have hn : numV 10 (mid3 L).data.toList = a := by
    rw [em]
    simp only [numV, List.foldl_cons, List.foldl_nil, x1.1, x2.1, x3.1]
    omega
  have hform : statForm L = true := by
    unfold statForm
    rw [decide_eq_true (by omega), decide_eq_true b8, decide_eq_true b12, e8, hmv.2, b9, b10, b11]
    unfold isDg
    rw [decide_eq_true x1.2, decide_eq_true x2.2, decide_eq_true x3.2]
    simp
  have hmm : vminor (hd8 L) = (k', 0) := by rw [e8]; exact hmv.1
  rw [statRes_ok hform hmm hn hr1 hr2 (by rw [er]; exact hv), er]
end Go.Proofs.YtekbmefdaepgcaaDoor

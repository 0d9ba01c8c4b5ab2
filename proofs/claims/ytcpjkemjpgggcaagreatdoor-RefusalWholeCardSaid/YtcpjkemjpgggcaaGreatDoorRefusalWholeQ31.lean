/- Texts packed for one claim, 31 of 45: FoneP. -/
import Derived.Test.YtcpjkemjpgggcaaGreatDoorRefusalWholeQ16
import Derived.Test.YtcpjkemjpgggcaaGreatDoorRefusalWholeQ6
set_option linter.unusedSimpArgs false
set_option linter.unusedVariables false
-- FoneP
namespace Go.Proofs.YtcpjkemjpgggcaaGreatDoor
open Go.RowKit
theorem figD_dig {d : Nat} (h : d < 10) : (figD d).toNat = 48 + d := by
  unfold figD
  rw [if_pos h]
  show (48 + d) % 256 = 48 + d
  omega
theorem figL_dig (n : Nat) : ∀ c ∈ figL 10 n, ∃ d, d < 10 ∧ c.toNat = 48 + d := by
  induction n using Nat.strongRecOn with
  | ind n ih =>
    intro c hc
    rcases Nat.lt_or_ge n 10 with h | h
    · rw [figL_low h] at hc
      have : c = figD n := by simpa using hc
      exact ⟨n, h, by rw [this, figD_dig h]⟩
    · rw [figL_high (by decide) h, List.mem_append] at hc
      rcases hc with hc | hc
      · exact ih _ (by omega) c hc
      · have : c = figD (n % 10) := by simpa using hc
        exact ⟨n % 10, by omega, by rw [this, figD_dig (by omega)]⟩
theorem digV_fig {d : Nat} (h : d < 10) : digV ((48 + d : Nat) : Int) = d := by
  unfold digV
  rw [if_pos (by omega)]
  omega
theorem figL_num (n : Nat) : numV 10 (figL 10 n) = n := by
  induction n using Nat.strongRecOn with
  | ind n ih =>
    rcases Nat.lt_or_ge n 10 with h | h
    · rw [figL_low h]
      show (0 : Int) * 10 + digV (figD n).toNat = n
      rw [figD_dig h, digV_fig h]
      omega
    · rw [figL_high (by decide) h, numV_snoc, ih _ (by omega), figD_dig (by omega), digV_fig (by omega)]
      omega
theorem text_data {n : Int} (h : 0 ≤ n) : (textB n).data.toList = figL 10 n.natAbs := by unfold textB; rw [if_neg (by omega)]
theorem text_num {n most : Int} (h : 0 ≤ n) (hm : n ≤ most) : numRes (textB n).data.toList 10 most = (n, 0) := by
  rw [text_data h]
  unfold numRes
  have h1 : (figL 10 n.natAbs).isEmpty = false := by
    have := figL_ne (b := 10) (by decide) n.natAbs
    cases hf : figL 10 n.natAbs with
    | nil => exact absurd hf this
    | cons _ _ => rfl
  have h2 : (figL 10 n.natAbs).all (digB 10) = true := by
    rw [List.all_eq_true]
    intro c hc
    obtain ⟨d, hd, e⟩ := figL_dig _ c hc
    unfold digB
    rw [e, digV_fig hd]
    exact decide_eq_true (by omega)
  rw [h1, h2, figL_num]
  have h3 : ((n.natAbs : Nat) : Int) = n := by omega
  rw [h3]
  simp [hm]
theorem partL_solo : ∀ (l a : List UInt8), (∀ c ∈ l, c ≠ 44) → partL a l = [a ++ l]
  | [], a, _ => by simp [partL]
  | c :: l, a, h => by
    unfold partL
    rw [if_neg (h c (by simp)), partL_solo l _ (fun d hd => h d (by simp [hd]))]
    simp
theorem dropW_none {l : List UInt8} (h : ∀ c ∈ l, blL c = false) : l.dropWhile blL = l := by
  cases l with
  | nil => rfl
  | cons c t => rw [List.dropWhile_cons, h c (by simp)]; rfl
theorem text_part {n : Int} (h : 0 ≤ n) : partB (textB n) = [textB n] := by
  unfold partB
  rw [partL_solo _ _ (fun c hc => ?_)]
  · show [(⟨(trimL (textB n).data.toList).toArray⟩ : ByteArray)] = [textB n]
    congr 1
    apply ext_list
    show trimL (textB n).data.toList = _
    unfold trimL
    have hb : ∀ c ∈ (textB n).data.toList, blL c = false := by
      intro c hc
      rw [text_data h] at hc
      obtain ⟨d, hd, e⟩ := figL_dig _ c hc
      unfold blL
      exact decide_eq_false (by omega)
    rw [dropW_none hb, dropW_none (fun c hc => hb c (List.mem_reverse.1 hc)), List.reverse_reverse]
  · rw [text_data h] at hc
    obtain ⟨d, hd, e⟩ := figL_dig _ c hc
    rintro rfl
    rw [show (44 : UInt8).toNat = 44 from rfl] at e
    omega
theorem allB_append (l m : List Fd) (name : ByteArray) : allB (l ++ m) name = allB l name ++ allB m name := by unfold allB; rw [List.filter_append, List.map_append]
theorem allB_gone {fs : List Fd} {q : Fd → Bool} {name : ByteArray} (h : ∀ x, lowB x.1 = lowB name → q x = true) : allB (fs.filter (fun x => !q x)) name = [] := by
  unfold allB
  rw [List.map_eq_nil_iff, List.filter_eq_nil_iff]
  intro x hx hd
  have h1 := (List.mem_filter.1 hx).2
  rw [h x (of_decide_eq_true hd)] at h1
  cases h1
def cl2B : ByteArray := ⟨#[99, 111, 110, 116, 101, 110, 116, 45, 108, 101, 110, 103, 116, 104]⟩
def te2B : ByteArray := ⟨#[116, 114, 97, 110, 115, 102, 101, 114, 45, 101, 110, 99, 111, 100, 105, 110, 103]⟩
theorem allB_one (name v n2 : ByteArray) : allB [(name, v)] n2 = if lowB name = lowB n2 then [v] else [] := by
  unfold allB
  rw [List.filter_cons]
  by_cases h : lowB name = lowB n2
  · rw [if_pos h, if_pos (decide_eq_true h)]; rfl
  · rw [if_neg h, if_neg (by simpa using h)]; rfl
theorem two_said {N : List Fd} (h1 : allB N teB = []) (h2 : allB N clB = []) {a b : Int} (ha : 0 ≤ a) (ha' : a ≤ 2147483647) (hb : 0 ≤ b) (hb' : b ≤ 2147483647) (hab : a ≠ b) (k : Int) :
    saidP (N ++ [(clB, textB a)] ++ [(cl2B, textB b)]) k = (0, 0, 14) := by
  have e1 : lowB clB ≠ lowB teB := by decide
  have e2 : lowB cl2B ≠ lowB teB := by decide
  have e3 : lowB cl2B = lowB clB := by decide
  have hte : allB (N ++ [(clB, textB a)] ++ [(cl2B, textB b)]) teB = [] := by
    rw [allB_append, allB_append, h1, allB_one, allB_one, if_neg e1, if_neg e2]; rfl
  have hcl : allB (N ++ [(clB, textB a)] ++ [(cl2B, textB b)]) clB = [textB a, textB b] := by
    rw [allB_append, allB_append, h2, allB_one, allB_one, if_pos rfl, if_pos e3]; rfl
  have hc : codP (N ++ [(clB, textB a)] ++ [(cl2B, textB b)]) = (false, 0) := by unfold codP; rw [if_pos hte]
  have hl : lenP (N ++ [(clB, textB a)] ++ [(cl2B, textB b)]) = none := by
    unfold lenP
    rw [hcl]
    show lenF (-1) (partB (textB a) ++ (partB (textB b) ++ [])) = none
    rw [text_part ha, text_part hb]
    show lenF (-1) [textB a, textB b] = none
    unfold lenF
    rw [text_num ha ha', if_neg (by simp)]
    unfold lenF
    rw [text_num hb hb', if_pos (by right; exact ⟨ha, fun h => hab h.symm⟩)]
  unfold saidP
  rw [hc, hl]
  rfl
theorem both_said {N : List Fd} (h1 : allB N teB = []) (h2 : allB N clB = []) {a : Int} (k : Int) :
    saidP (N ++ [(clB, textB a)] ++ [(te2B, chkB)]) k = (0, 0, 14) := by
  have e1 : lowB clB ≠ lowB teB := by decide
  have e2 : lowB te2B = lowB teB := by decide
  have e3 : lowB te2B ≠ lowB clB := by decide
  have hte : allB (N ++ [(clB, textB a)] ++ [(te2B, chkB)]) teB = [chkB] := by
    rw [allB_append, allB_append, h1, allB_one, allB_one, if_neg e1, if_pos e2]; rfl
  have hcl : allB (N ++ [(clB, textB a)] ++ [(te2B, chkB)]) clB = [textB a] := by
    rw [allB_append, allB_append, h2, allB_one, allB_one, if_pos rfl, if_neg e3]; rfl
  have hc : codP (N ++ [(clB, textB a)] ++ [(te2B, chkB)]) = (true, 0) := by
    unfold codP
    rw [hte, if_neg (by simp)]
    decide +kernel
  unfold saidP
  rw [hc, hcl]
  simp
theorem req_wrong {fs : List Fd} {k : Int} (h : saidP fs k = (0, 0, 14)) : (reqP fs k).2.2 = 13 ∨ (reqP fs k).2.2 = 14 := by
  unfold reqP
  split
  · exact Or.inl rfl
  · rw [h, if_neg (by decide)]
    exact Or.inr rfl
theorem resp_wrong {fs : List Fd} {k n : Int} {m : ByteArray} (h : saidP fs k = (0, 0, 14)) : (respP fs k n m).2.2 = 14 := by
  unfold respP
  rw [h]
  split <;> rfl
end Go.Proofs.YtcpjkemjpgggcaaGreatDoor

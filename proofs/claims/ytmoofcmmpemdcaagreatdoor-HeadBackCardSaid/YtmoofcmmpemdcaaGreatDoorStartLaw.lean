/- Layer 15: Request, the reference's Status: joined, for every text of at most 1000 octets. -/
import Derived.Test.YtmoofcmmpemdcaaGreatDoorReq
import Derived.Test.YtmoofcmmpemdcaaGreatDoorStatusR
import Derived.Test.YtmoofcmmpemdcaaGreatDoorNumberW
set_option linter.unusedSimpArgs false
set_option linter.unusedVariables false
namespace Go.Proofs.YtmoofcmmpemdcaaGreatDoor
open Go.RowKit
theorem request_any (s : ByteArray) (hs : s.size ≤ 100000) {m t : ByteArray} {k e : Int} (hr : reqRes s = ((m, t, k), e)) {mx : Int} (w : World) (hm : w.cell? ⟨0, 0, none⟩ = some (.int .i64 mx)) :
    Calls Tryz.prog 211 #[.string s] w fun o w' => o = .returned (.tuple #[.agg #[.string m, .string t, .int .i64 k, .int .i64 0, .string ⟨#[]⟩, .slice none 0 0], .int .i64 e]) ∧ Below w.heap.size w w' := by
  by_cases h2 : (posL 32 0 s.data.toList).length = 2
  rotate_left
  · rw [reqRes_form h2] at hr
    obtain ⟨⟨rfl, rfl, rfl⟩, rfl⟩ : (⟨#[]⟩ = m ∧ ⟨#[]⟩ = t ∧ 0 = k) ∧ 3 = e := by simpa using hr
    exact request_other s hs h2 w hm
  obtain ⟨a, b, hab⟩ : ∃ a b, posL 32 0 s.data.toList = [a, b] := by
    match hq : posL 32 0 s.data.toList, h2 with
    | [a, b], _ => exact ⟨a, b, rfl⟩
  obtain ⟨k', f, hk⟩ : ∃ k' f, vminor (s.extract (b + 1) s.size) = (k', f) := ⟨_, _, rfl⟩
  rw [reqE hab hk] at hr
  by_cases hz : askE (f == 0) f (askE (visL (s.extract (a + 1) b).data.toList) 11 (askE (tokL (s.extract 0 a).data.toList) 6 0)) = 0
  · rw [if_pos hz] at hr
    obtain ⟨⟨rfl, rfl, rfl⟩, rfl⟩ : (s.extract 0 a = m ∧ s.extract (a + 1) b = t ∧ k' = k) ∧ 0 = e := by simpa using hr
    have := request_good s hs hab rfl rfl rfl hk rfl rfl rfl rfl rfl hz w hm
    rw [hz] at this
    exact this
  · rw [if_neg hz] at hr
    obtain ⟨h1, rfl⟩ := Prod.mk.inj hr
    obtain ⟨rfl, h2⟩ := Prod.mk.inj h1
    obtain ⟨rfl, rfl⟩ := Prod.mk.inj h2
    exact request_bad s hs hab rfl rfl rfl hk rfl rfl rfl rfl rfl hz w hm
theorem mid_bt {s : ByteArray} (h : 12 ≤ s.size) : (mid3 s).data.toList.all (digB 10) = (isDg (bt s 9) && (isDg (bt s 10) && isDg (bt s 11))) := by
  rw [mid_list s h]
  simp only [List.all_cons, List.all_nil, digB_bt, Bool.and_true]
theorem mid_digs {s : ByteArray} (h : 12 ≤ s.size) (g9 : isDg (bt s 9) = true) (g10 : isDg (bt s 10) = true) (g11 : isDg (bt s 11) = true) : digs (mid3 s) := by
  intro k hk
  have hz : (mid3 s).size = 3 := by unfold mid3; simp; omega
  have hb : bt (mid3 s) k = bt s (k + 9) := by
    rw [bt_get _ k hk, bt_get s (k + 9) (by omega)]
    have h1 : (mid3 s).data.toList[k]? = s.data.toList[k + 9]? := by
      unfold mid3
      rw [Lib.extract_data, List.getElem?_take_of_lt (by omega), List.getElem?_drop, Nat.add_comm]
    rw [List.getElem?_eq_getElem (by simpa using hk), List.getElem?_eq_getElem (by simp; omega)] at h1
    have h2 := Option.some.inj h1
    exact congrArg (fun b : UInt8 => (b.toNat : Int)) h2
  rw [hb]
  simp only [isDg, decide_eq_true_eq] at g9 g10 g11
  rcases (by omega : k = 0 ∨ k = 1 ∨ k = 2) with rfl | rfl | rfl
  · exact g9
  · exact g10
  · exact g11
theorem rstatus_any (s : ByteArray) (hs : s.size ≤ 100000) {k n e : Int} {r : ByteArray} (hr : statRes s = ((k, n, r), e)) (w : World) :
    Calls Tryz.prog 112 #[.string s] w fun o w' => o = .returned (.tuple #[.agg #[.string ⟨#[]⟩, .string ⟨#[]⟩, .int .i64 k, .int .i64 n, .string r, .slice none 0 0], .int .i64 e]) ∧ Below w.heap.size w w' := by
  have form : statForm s = false → (0 = k ∧ 0 = n ∧ ⟨#[]⟩ = r) ∧ 3 = e := fun h => by
    rw [statRes_form h] at hr
    simpa using hr
  by_cases hA : s.size < 12
  · obtain ⟨⟨rfl, rfl, rfl⟩, rfl⟩ := form (statForm_no hA)
    exact rstatus_A s hs w hA
  cases hf : vform (hd8 s)
  · obtain ⟨⟨rfl, rfl, rfl⟩, rfl⟩ := form (statForm_version hf)
    exact rstatus_B s hs w (by omega) hf
  by_cases h8 : bt s 8 = 32
  rotate_left
  · obtain ⟨⟨rfl, rfl, rfl⟩, rfl⟩ := form (statForm_eight h8)
    exact rstatus_C s hs w (by omega) hf h8
  have mid : isDg (bt s 9) = false ∨ isDg (bt s 10) = false ∨ isDg (bt s 11) = false → statForm s = false := fun h => by
    refine statForm_mid (by omega) ?_
    rw [mid_bt (by omega)]
    rcases h with h | h | h <;> rw [h] <;> simp
  cases g9 : isDg (bt s 9)
  · obtain ⟨⟨rfl, rfl, rfl⟩, rfl⟩ := form (mid (.inl g9))
    exact rstatus_D9 s hs w (by omega) hf h8 g9
  cases g10 : isDg (bt s 10)
  · obtain ⟨⟨rfl, rfl, rfl⟩, rfl⟩ := form (mid (.inr (.inl g10)))
    exact rstatus_D10 s hs w (by omega) hf h8 g9 g10
  cases g11 : isDg (bt s 11)
  · obtain ⟨⟨rfl, rfl, rfl⟩, rfl⟩ := form (mid (.inr (.inr g11)))
    exact rstatus_D11 s hs w (by omega) hf h8 g9 g10 g11
  by_cases hC : s.size = 12 ∨ bt s 12 = 32
  rotate_left
  · have h1 : s.size ≠ 12 := fun h => hC (.inl h)
    have h2 : bt s 12 ≠ 32 := fun h => hC (.inr h)
    obtain ⟨⟨rfl, rfl, rfl⟩, rfl⟩ := form (statForm_twelve (by omega) h2)
    exact rstatus_E s hs w (by omega) hf h8 g9 g10 g11 h2
  have hC' : s.size = 12 ∨ (12 < s.size ∧ bt s 12 = 32) := by
    rcases hC with h | h
    · exact .inl h
    · rcases (by omega : s.size = 12 ∨ 12 < s.size) with h1 | h1
      · exact .inl h1
      · exact .inr ⟨h1, h⟩
  have hd : (mid3 s).data.toList.all (digB 10) = true := by rw [mid_bt (by omega), g9, g10, g11]; rfl
  have hy := statForm_yes (by omega) h8 hC hf hd
  obtain ⟨a, ha⟩ : ∃ a, numV 10 (mid3 s).data.toList = a := ⟨_, rfl⟩
  have hn : ∀ W : World, Calls Tryz.prog 108 #[.string (s.extract 9 12), .int .i64 10, .int .i64 999] W fun r w' => r = .returned (.tuple #[.int .i64 a, .int .i64 0]) ∧ W = w' := fun W => by
    have h1 := mid_small (by omega) hd
    have hz : (mid3 s).size = 3 := by unfold mid3; simp; omega
    exact rnumber_digs (mid3 s) (by omega) (by omega) (mid_digs (by omega) g9 g10 g11) 999 (by decide) (by decide) a 0 (by rw [if_pos h1, ha]) W
  obtain ⟨k', f, hk⟩ : ∃ k' f, vminor (hd8 s) = (k', f) := ⟨_, _, rfl⟩
  by_cases hf0 : f = 0
  rotate_left
  · rw [statRes_minor hy hk hf0] at hr
    obtain ⟨⟨rfl, rfl, rfl⟩, rfl⟩ : (0 = k ∧ 0 = n ∧ ⟨#[]⟩ = r) ∧ f = e := by simpa using hr
    rcases hC' with h | ⟨h, h'⟩
    · exact rstatus_F12 s hs w h hf h8 g9 g10 g11 hk hf0
    · exact rstatus_F13 s hs w h hf h8 g9 g10 g11 h' hk hf0
  subst hf0
  by_cases hlo : a < 100
  · rw [statRes_range hy hk ha (.inl hlo)] at hr
    obtain ⟨⟨rfl, rfl, rfl⟩, rfl⟩ : (0 = k ∧ 0 = n ∧ ⟨#[]⟩ = r) ∧ 12 = e := by simpa using hr
    rcases hC' with h | ⟨h, h'⟩
    · exact rstatus_G12 s hs w h hf h8 g9 g10 g11 hk hn hlo
    · exact rstatus_G13 s hs w h hf h8 g9 g10 g11 h' hk hn hlo
  by_cases hhi : 599 < a
  · rw [statRes_range hy hk ha (.inr hhi)] at hr
    obtain ⟨⟨rfl, rfl, rfl⟩, rfl⟩ : (0 = k ∧ 0 = n ∧ ⟨#[]⟩ = r) ∧ 12 = e := by simpa using hr
    rcases hC' with h | ⟨h, h'⟩
    · exact rstatus_H12 s hs w h hf h8 g9 g10 g11 hk hn hhi
    · exact rstatus_H13 s hs w h hf h8 g9 g10 g11 h' hk hn hhi
  have h1 : 100 ≤ a := by omega
  have h2 : a ≤ 599 := by omega
  have hv0 : ∀ W : World, Calls Tryz.prog 95 #[.string ⟨#[]⟩] W fun r w' => r = .returned (.bool true) ∧ W = w' := fun W => rvalue_any ⟨#[]⟩ (by decide) W
  have hr12 : s.size ≤ 13 → rest13 s = ⟨#[]⟩ := fun h => by
    apply ByteArray.ext
    apply Array.eq_empty_of_size_eq_zero
    show (rest13 s).size = 0
    unfold rest13
    simp
    omega
  by_cases h13 : 13 < s.size
  rotate_left
  · have hv : valL (rest13 s).data.toList = true := by rw [hr12 (by omega)]; rfl
    rw [statRes_ok hy hk ha h1 h2 hv, hr12 (by omega)] at hr
    obtain ⟨⟨rfl, rfl, rfl⟩, rfl⟩ : (k' = k ∧ a = n ∧ ⟨#[]⟩ = r) ∧ 0 = e := by simpa using hr
    rcases hC' with h | ⟨h, h'⟩
    · exact rstatus_J12 s hs w h hf h8 g9 g10 g11 hk hn h1 h2 hv0
    · exact rstatus_J13 s hs w (by omega) hf h8 g9 g10 g11 h' hk hn h1 h2 hv0
  have h12 : bt s 12 = 32 := by
    rcases hC' with h | ⟨_, h'⟩
    · omega
    · exact h'
  have hx : s.extract 13 s.size = rest13 s := by unfold rest13; rw [Nat.min_eq_left (by omega)]
  have hvx : ∀ W : World, Calls Tryz.prog 95 #[.string (s.extract 13 s.size)] W fun r w' => r = .returned (.bool (valL (rest13 s).data.toList)) ∧ W = w' := fun W => by rw [hx]; exact rvalue_any (rest13 s) (by unfold rest13; simp; omega) W
  cases hv : valL (rest13 s).data.toList
  · rw [statRes_value hy hk ha h1 h2 hv] at hr
    obtain ⟨⟨rfl, rfl, rfl⟩, rfl⟩ : (0 = k ∧ 0 = n ∧ ⟨#[]⟩ = r) ∧ 7 = e := by simpa using hr
    rw [hv] at hvx
    exact rstatus_I s hs w h13 hf h8 g9 g10 g11 h12 hk hn h1 h2 hvx
  · rw [statRes_ok hy hk ha h1 h2 hv] at hr
    obtain ⟨⟨rfl, rfl, rfl⟩, rfl⟩ : (k' = k ∧ a = n ∧ rest13 s = r) ∧ 0 = e := by simpa using hr
    rw [hv] at hvx
    have := rstatus_J14 s hs w h13 hf h8 g9 g10 g11 h12 hk hn h1 h2 hvx
    rw [hx] at this
    exact this
end Go.Proofs.YtmoofcmmpemdcaaGreatDoor

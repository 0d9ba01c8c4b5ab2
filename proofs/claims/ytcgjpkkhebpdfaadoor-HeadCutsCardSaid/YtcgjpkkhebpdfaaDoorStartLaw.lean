/- Layer 15: Request, the reference's Status: joined, for every text of at most 1000 octets. -/
import Derived.Test.YtcgjpkkhebpdfaaDoorReq
import Derived.Test.YtcgjpkkhebpdfaaDoorStatusR
import Derived.Test.YtcgjpkkhebpdfaaDoorNumberW
set_option linter.unusedSimpArgs false
set_option linter.unusedVariables false
namespace Go.Proofs.YtcgjpkkhebpdfaaDoor
open Go.RowKit
theorem request_any (s : ByteArray) (hs : s.size ≤ 100000) {m t : ByteArray} {k e : Int} (hr : reqRes s = ((m, t, k), e)) {mx : Int} (w : World) (hm : w.cell? ⟨0, 0, none⟩ = some (.int .i64 mx)) :
    Calls Tryd.prog 35 #[.string s] w fun o w' => o = .returned (.tuple #[.agg #[.string m, .string t, .int .i64 k, .int .i64 0, .string ⟨#[]⟩, .slice none 0 0], .int .i64 e]) ∧ Below w.heap.size w w' := by
  by_cases h2 : (posL 32 0 s.data.toList).length = 2
  rotate_left
  · rw [reqRes_form h2] at hr
    obtain ⟨⟨rfl, rfl, rfl⟩, rfl⟩ : (⟨#[]⟩ = m ∧ ⟨#[]⟩ = t ∧ 0 = k) ∧ 3 = e := by simpa using hr
    exact request_other s hs h2 w hm
  obtain ⟨a, b, hab⟩ : ∃ a b, posL 32 0 s.data.toList = [a, b] := by
    match hq : posL 32 0 s.data.toList, h2 with
    | [a, b], _ => exact ⟨a, b, rfl⟩
  obtain ⟨k', f, hk⟩ : ∃ k' f, vminor (s.extract (b + 1) s.size) = (k', f) := ⟨_, _, rfl⟩
  rw [reqE hab hk] at hr
  by_cases hz : askE (f == 0) f (askE (visL (s.extract (a + 1) b).data.toList) 11 (askE (tokL (s.extract 0 a).data.toList) 6 0)) = 0
  · rw [if_pos hz] at hr
    obtain ⟨⟨rfl, rfl, rfl⟩, rfl⟩ : (s.extract 0 a = m ∧ s.extract (a + 1) b = t ∧ k' = k) ∧ 0 = e := by simpa using hr
    have := request_good s hs hab rfl rfl rfl hk rfl rfl rfl rfl rfl hz w hm
    rw [hz] at this
    exact this
  · rw [if_neg hz] at hr
    obtain ⟨h1, rfl⟩ := Prod.mk.inj hr
    obtain ⟨rfl, h2⟩ := Prod.mk.inj h1
    obtain ⟨rfl, rfl⟩ := Prod.mk.inj h2
    exact request_bad s hs hab rfl rfl rfl hk rfl rfl rfl rfl rfl hz w hm
theorem mid_bt {s : ByteArray} (h : 12 ≤ s.size) : (mid3 s).data.toList.all (digB 10) = (isDg (bt s 9) && (isDg (bt s 10) && isDg (bt s 11))) := by
  rw [mid_list s h]
  simp only [List.all_cons, List.all_nil, digB_bt, Bool.and_true]
theorem mid_digs {s : ByteArray} (h : 12 ≤ s.size) (g9 : isDg (bt s 9) = true) (g10 : isDg (bt s 10) = true) (g11 : isDg (bt s 11) = true) : digs (mid3 s) := by
  intro k hk
  have hz : (mid3 s).size = 3 := by unfold mid3; simp; omega
  have hb : bt (mid3 s) k = bt s (k + 9) := by
    rw [bt_get _ k hk, bt_get s (k + 9) (by omega)]
    have h1 : (mid3 s).data.toList[k]? = s.data.toList[k + 9]? := by
      unfold mid3
      rw [Lib.extract_data, List.getElem?_take_of_lt (by omega), List.getElem?_drop, Nat.add_comm]
    rw [List.getElem?_eq_getElem (by simpa using hk), List.getElem?_eq_getElem (by simp; omega)] at h1
    have h2 := Option.some.inj h1
    exact congrArg (fun b : UInt8 => (b.toNat : Int)) h2
  rw [hb]
  simp only [isDg, decide_eq_true_eq] at g9 g10 g11
  rcases (by omega : k = 0 ∨ k = 1 ∨ k = 2) with rfl | rfl | rfl
  · exact g9
  · exact g10
  · exact g11
end Go.Proofs.YtcgjpkkhebpdfaaDoor

/- What the two Prints of a time answer: one text. -/
import Derived.Test.YtkcimbjgjamloaaPrintP
import Derived.Test.YtkcimbjgjamloaaCivilS
namespace Go.Proofs.Ytkcimbjgjamloaa
open Go.RowKit Civ
theorem date_of (n : Int) (h1 : -719162 ≤ n) (h2 : n < 2932897) : ∃ y m d, IsDate n y m d := by
  obtain ⟨c, hc⟩ : ∃ c, c = min ((n + 719468) % 146097 / 36524) 3 := ⟨_, rfl⟩
  obtain ⟨f, hf⟩ : ∃ f, f = ((n + 719468) % 146097 - c * 36524) / 1461 := ⟨_, rfl⟩
  obtain ⟨o, ho⟩ : ∃ o, o = min (((n + 719468) % 146097 - c * 36524 - f * 1461) / 365) 3 := ⟨_, rfl⟩
  obtain ⟨r, hr⟩ : ∃ r, r = (n + 719468) % 146097 - c * 36524 - f * 1461 - o * 365 := ⟨_, rfl⟩
  have hP := parts_of h1 h2 rfl hc hf ho hr
  by_cases h10 : (5 * r + 2) / 153 < 10
  · exact ⟨_, _, _, of_early h1 h2 hP rfl rfl h10⟩
  · exact ⟨_, _, _, of_late h1 h2 hP rfl rfl (by omega)⟩
set_option maxRecDepth 100000 in
theorem rprint_any {n y m d : Int} (s r : Int) (k j : Nat) (hd : IsDate n y m d) (hr : 0 ≤ r) (hr2 : r < 86400) (hk : weekD n = k) (hj : m = (j : Int) + 1) (hx : ∀ W : World, Calls Try.prog 47 #[.int .i64 s] W fun e w' => e = .returned (.tuple #[dateV y m d r, .bool true]) ∧ Below W.heap.size W w') (w : World) : Calls Try.prog 34 #[.int .i64 s] w fun e w' => e = .returned (.string (dateB k j y d r)) ∧ Below w.heap.size w w' := by
  have HW := Lib.hid (fun W => rwrite_any r k j hd hr hr2 hk hj W)
  unfold dateV at hx HW
  obtain ⟨a, ha⟩ : ∃ a, a = r / 3600 := ⟨_, rfl⟩
  obtain ⟨b, hb⟩ : ∃ b, b = r / 60 % 60 := ⟨_, rfl⟩
  obtain ⟨c, hc⟩ : ∃ c, c = r % 60 := ⟨_, rfl⟩
  obtain ⟨T, hT⟩ : ∃ T, T = dateB k j y d r := ⟨_, rfl⟩
  rw [← ha, ← hb, ← hc] at hx HW
  rw [← hT] at HW ⊢
  have HX := Lib.hid hx
  clear hx hd hr hr2 hk hj ha hb hc hT
  go_enter Try.func34, Try.ntmps34
  go_wp2_with (first | (go_at_call 47; refine (HX.out _).mono ?_; rintro e' w1 ⟨rfl, hb⟩; have HB := Lib.hid hb; clear hb) | (go_at_call 48; refine (HW.out _).mono ?_; rintro e' w2 ⟨rfl, hb⟩; have HB2 := Lib.hid hb; clear hb))
  go_ret
  exact ⟨rfl, (HB.out.alloc HB.out.size _).trans (HB2.out.mono (by have := HB.out.size; simp; omega))⟩
/-- Both Prints of a time. -/
def Prints (s : Int) (T : ByteArray) : Prop :=
  (∀ W : World, Calls Try.prog 32 #[.int .i64 s] W fun e w' => e = .returned (.string T) ∧ Below W.heap.size W w') ∧ ∀ W : World, Calls Try.prog 34 #[.int .i64 s] W fun e w' => e = .returned (.string T) ∧ Below W.heap.size W w'
theorem prints_at {s n y m d r : Int} (hd : IsDate n y m d) (hs : s = n * 86400 + r) (hr : 0 ≤ r) (hr2 : r < 86400) : Prints s (dateB (weekD n).toNat (m - 1).toNat y d r) := by
  have hk : weekD n = ((weekD n).toNat : Int) := by unfold weekD; omega
  have hj : m = (((m - 1).toNat : Nat) : Int) + 1 := by have := hd.m1; omega
  by_cases h0 : 0 ≤ s
  · exact ⟨print_any s r _ _ hd hr hr2 hk hj (fun W => date_late hd hs hr hr2 h0 W), rprint_any s r _ _ hd hr hr2 hk hj (fun W => rdate_late hd hs hr hr2 h0 W)⟩
  · by_cases h1 : r = 0
    · exact ⟨print_any s r _ _ hd hr hr2 hk hj (fun W => date_exact hd hs h1 hr2 (by omega) W), rprint_any s r _ _ hd hr hr2 hk hj (fun W => rdate_exact hd hs h1 hr2 (by omega) W)⟩
    · exact ⟨print_any s r _ _ hd hr hr2 hk hj (fun W => date_early hd hs (by omega) hr2 (by omega) W), rprint_any s r _ _ hd hr hr2 hk hj (fun W => rdate_early hd hs (by omega) hr2 (by omega) W)⟩
theorem prints_any (s : Int) (h : -9223372036854775808 ≤ s) (h' : s ≤ 9223372036854775807) : ∃ T, Prints s T := by
  by_cases h1 : s < -62135596800
  · by_cases hm : s.tmod 86400 = 0
    · exact ⟨_, print_none s (fun W => date_below0 h1 h hm W), rprint_none s (fun W => rdate_below0 h1 h hm W)⟩
    · exact ⟨_, print_none s (fun W => date_below1 h1 h hm W), rprint_none s (fun W => rdate_below1 h1 h hm W)⟩
  · by_cases h2 : 253402300800 ≤ s
    · exact ⟨_, print_none s (fun W => date_above h2 h' W), rprint_none s (fun W => rdate_above h2 h' W)⟩
    · obtain ⟨y, m, d, hd⟩ := date_of (s / 86400) (by omega) (by omega)
      exact ⟨_, prints_at (r := s % 86400) hd (by omega) (by omega) (by omega)⟩
theorem dateB_some (k j : Nat) (y d r : Int) : (dateB k j y d r).toList.isEmpty = false := by
  rw [ByteArray.toList_eq]
  have hz : (dateB k j y d r).size = (dateB k j y d r).data.toList.length := by simp
  have h4 : 4 ≤ (dateB k j y d r).size := by unfold dateB; rw [ByteArray.size_append]; have : (⟨#[32, 71, 77, 84]⟩ : ByteArray).size = 4 := rfl; omega
  cases h : (dateB k j y d r).data.toList with
  | nil => rw [h] at hz; rw [hz] at h4; exact absurd h4 (by decide)
  | cons a l => rfl
end Go.Proofs.Ytkcimbjgjamloaa

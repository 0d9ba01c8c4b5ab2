/- Texts packed for one claim, 29 of 52: Text Hex. -/
import Derived.Test.YtaojfiegnebbdaaGreatDoorMbkQ11
import Derived.Test.YtaojfiegnebbdaaGreatDoorMbkShelf
import Derived.Lib.Repeat
set_option maxRecDepth 100000
set_option maxHeartbeats 16000000
set_option linter.unusedSimpArgs false
set_option linter.unusedVariables false
-- Text
namespace Go.Proofs.YtaojfiegnebbdaaGreatDoor
open Go.RowKit
theorem figL_low {b n : Nat} (h : n < b) : figL b n = [figD n] := by rw [figL, dif_neg (fun h' => by omega)]
theorem figL_high {b n : Nat} (hb : 2 ≤ b) (h : b ≤ n) : figL b n = figL b (n / b) ++ [figD (n % b)] := by rw [figL, dif_pos ⟨hb, h⟩]
theorem figL_len {b : Nat} (hb : 2 ≤ b) : ∀ (k n : Nat), 1 ≤ k → n < 2 ^ k → (figL b n).length ≤ k
 | 0, _, h, _ => by omega
 | k + 1, n, _, h => by
   rcases Nat.lt_or_ge n b with h1 | h1
   ·rw [figL_low h1]; simp
   ·rw [figL_high hb h1, List.length_append]
    have h2 : n / b ≤ n / 2 := Nat.div_le_div_left hb (by omega)
    have h4 : 0 < k := by
     rcases Nat.eq_zero_or_pos k with rfl | h5
     ·simp at h; omega
     ·exact h5
    have := figL_len hb k (n / b) h4 (by rw [Nat.pow_succ] at h; omega)
    simp only [List.length_cons, List.length_nil]
    omega
def textB (n : Int) : ByteArray := if n < 0 then ⟨#[45]⟩ ++ ⟨(figL 10 n.natAbs).toArray⟩ else ⟨(figL 10 n.natAbs).toArray⟩
theorem textB_size (n : Int) (h : -9223372036854775808 ≤ n) (h' : n ≤ 9223372036854775807) : (textB n).size ≤ 65 := by
 have := figL_len (b := 10) (by decide) 64 n.natAbs (by decide) (by omega)
 unfold textB
 split
 ·rw [ByteArray.size_append]
  show 1 + (figL 10 n.natAbs).toArray.size ≤ 65
  simp; omega
 ·show (figL 10 n.natAbs).toArray.size ≤ 65
  simp; omega
theorem figB_size {b : Nat} (hb : 2 ≤ b) (n : Nat) (h : n < 2 ^ 64) : (⟨(figL b n).toArray⟩ : ByteArray).size ≤ 64 := by
 have := figL_len hb 64 n (by decide) h
 show (figL b n).toArray.size ≤ 64
 simpa using this
theorem text_any (n : Int) (h : -9223372036854775808 ≤ n) (h' : n ≤ 9223372036854775807) (w : World) : Calls Tryz.prog 144 #[.int .i64 n] w fun e w' => e = .returned (.string (textB n)) ∧ Below w.heap.size w w' := by
 have hz := figB_size (b := 10) (by decide) n.natAbs (by omega)
 obtain ⟨F, hF⟩ : ∃ F : ByteArray, F = ⟨(figL 10 n.natAbs).toArray⟩ := ⟨_, rfl⟩
 have HC : Hid (∀ W : World, Calls Tryz.prog 172 #[.int .i64 n, .int .i64 10] W fun e w' => e = .returned (.string F) ∧ Below W.heap.size W w') := by
  show ∀ W : World, Calls Tryz.prog 172 #[.int .i64 n, .int .i64 10] W fun e w' => e = .returned (.string F) ∧ Below W.heap.size W w'
  rw [hF]; exact figures_10 n h h'
 rw [← hF] at hz
 by_cases hn : n < 0
 ·have HT : Hid (textB n = ⟨#[45]⟩ ++ F) := by show textB n = _; unfold textB; rw [if_pos hn, hF]
  have hadd := fun (W : World) => run_string_add_sum (P := Tryz.prog) (w := W) ⟨#[45]⟩ F (by show 1 + F.size ≤ _; omega)
  clear hF hz h h'
  go_enter Tryz.func144, Tryz.ntmps144
  go_wp2_with (go_at_call 172; refine (HC.out _).mono ?_; rintro e' w' ⟨rfl, hb⟩; have HB := lH hb; clear hb)
  go_ret
  rw [HT.out]
  exact ⟨rfl, HB.out⟩
 ·have HT : Hid (textB n = F) := by show textB n = _; unfold textB; rw [if_neg hn, hF]
  have hn' : 0 ≤ n := by omega
  clear hF hz h h'
  go_enter Tryz.func144, Tryz.ntmps144
  go_wp2_with (go_at_call 172; refine (HC.out _).mono ?_; rintro e' w' ⟨rfl, hb⟩; have HB := lH hb; clear hb)
  go_ret
  rw [HT.out]
  exact ⟨rfl, HB.out⟩
def zerosB (n : Nat) : ByteArray := ⟨(List.replicate n 48).toArray⟩
def padB (n wide : Int) : ByteArray := if n < 0 then textB n else zerosB (min wide 20 - (textB n).size).toNat ++ textB n
theorem zerosB_zero (T : ByteArray) : zerosB 0 ++ T = T := by apply ByteArray.ext; simp [zerosB]
theorem zerosB_size (k : Nat) : (zerosB k).size = k := by show (List.replicate k (48 : UInt8)).toArray.size = k; simp
theorem repeat_zeros : ∀ k : Nat, Lib.repeatL [48] k = List.replicate k 48
 | 0 => rfl
 | k + 1 => by rw [Lib.repeatL, repeat_zeros k, List.replicate_succ]; rfl
theorem rep_at (r : Int) (k : Nat) (h : r = (k : Int)) (hk : k ≤ 20) (w : World) : Calls Tryz.prog 145 #[.string ⟨#[48]⟩, .int .i64 r] w fun e w' => e = .returned (.string (zerosB k)) ∧ Below w.heap.size w w' := by
 subst h
 have := Tryz.strings_Repeat ⟨#[48]⟩ k w (by omega) (by show 1 * k ≤ _; omega)
 rw [show (⟨#[48]⟩ : ByteArray).data.toList = [48] from rfl, repeat_zeros] at this
 exact this
theorem pad_any (n wide : Int) (h : -9223372036854775808 ≤ n) (h' : n ≤ 9223372036854775807) (hw0 : 0 ≤ wide) (hw1 : wide ≤ 9223372036854775807) (w : World) :
 Calls Tryz.prog 115 #[.int .i64 n, .int .i64 wide] w fun e w' => e = .returned (.string (padB n wide)) ∧ Below w.heap.size w w' := by
 have hz := textB_size n h h'
 obtain ⟨T, hT⟩ : ∃ T, T = textB n := ⟨_, rfl⟩
 have HC : Hid (∀ W : World, Calls Tryz.prog 144 #[.int .i64 n] W fun e w' => e = .returned (.string T) ∧ Below W.heap.size W w') := by
  show ∀ W : World, Calls Tryz.prog 144 #[.int .i64 n] W fun e w' => e = .returned (.string T) ∧ Below W.heap.size W w'
  rw [hT]; exact text_any n h h'
 rw [← hT] at hz
 by_cases hn : n < 0
 ·have HP : Hid (padB n wide = T) := by show padB n wide = T; unfold padB; rw [if_pos hn, hT]
  clear hT
  go_enter Tryz.func115, Tryz.ntmps115
  go_wp2_with (go_at_call 144; refine (HC.out _).mono ?_; rintro e' w' ⟨rfl, hb⟩; have HB := lH hb; clear hb)
  go_ret
  rw [HP.out]
  exact ⟨rfl, HB.out⟩
 obtain ⟨m, hm⟩ : ∃ m, m = min wide 20 := ⟨_, rfl⟩
 obtain ⟨k, hk⟩ : ∃ k : Nat, k = (m - T.size).toNat := ⟨_, rfl⟩
 have hk20 : k ≤ 20 := by omega
 have HP : Hid (padB n wide = zerosB k ++ T) := by show padB n wide = _; unfold padB; rw [if_neg hn, hk, hm, hT]
 have hadd := fun (W : World) => run_string_add_sum (P := Tryz.prog) (w := W) (zerosB k) T (by rw [zerosB_size]; omega)
 have hn' : 0 ≤ n := by omega
 have hrep : Hid (∀ (r : Int) (W : World), r = max 0 (min wide 20 - (T.size : Int)) → Calls Tryz.prog 145 #[.string ⟨#[48]⟩, .int .i64 r] W fun e w' => e = .returned (.string (zerosB k)) ∧ Below W.heap.size W w') := fun r W e => rep_at r k (by omega) hk20 W
 clear hk hT hk20 hn hm
 go_enter Tryz.func115, Tryz.ntmps115
 go_wp2_with (first
  | (go_at_call 144; refine (HC.out _).mono ?_; rintro e' w' ⟨rfl, hb⟩; have HB := lH hb; clear hb)
  | (go_at_call 145; refine (hrep.out _ _ ?hr).mono ?_; (case hr => first | rfl | omega); rintro e' w2 ⟨rfl, hb⟩; have HB2 := lH hb; clear hb))
 go_ret
 rw [HP.out]
 exact ⟨rfl, HB.out.trans (HB2.out.mono HB.out.size)⟩
end Go.Proofs.YtaojfiegnebbdaaGreatDoor
-- Hex
namespace Go.Proofs.YtaojfiegnebbdaaGreatDoor
open Go.RowKit
def hexB (n : Int) : ByteArray := if n < 0 then ⟨#[]⟩ else ⟨(figL 16 n.natAbs).toArray⟩
def crlf : ByteArray := ⟨#[13, 10]⟩
def clineB (n : Int) : ByteArray := if n < 0 then ⟨#[]⟩ else hexB n ++ crlf
def beginB (n : Int) : ByteArray := if n < 1 then ⟨#[]⟩ else clineB n
theorem hexB_size (n : Int) (h' : n ≤ 9223372036854775807) : (hexB n).size ≤ 64 := by
 unfold hexB
 split
 ·exact Nat.zero_le _
 ·exact figB_size (by decide) _ (by omega)
theorem clineB_size (n : Int) (h' : n ≤ 9223372036854775807) : (clineB n).size ≤ 66 := by
 have := hexB_size n h'
 unfold clineB
 split
 ·exact Nat.zero_le _
 ·rw [ByteArray.size_append]; show (hexB n).size + 2 ≤ 66; omega
theorem beginB_size (n : Int) (h' : n ≤ 9223372036854775807) : (beginB n).size ≤ 66 := by
 have := clineB_size n h'
 unfold beginB
 split
 ·exact Nat.zero_le _
 ·exact this
theorem hextext_any (n : Int) (h : -9223372036854775808 ≤ n) (h' : n ≤ 9223372036854775807) (w : World) : Calls Tryz.prog 143 #[.int .i64 n] w fun e w' => e = .returned (.string (hexB n)) ∧ Below w.heap.size w w' := by
 by_cases hn : n < 0
 ·have HT : Hid (hexB n = ⟨#[]⟩) := by show hexB n = _; unfold hexB; rw [if_pos hn]
  go_enter Tryz.func143, Tryz.ntmps143
  go_wp2_with fail
  go_ret
  rw [HT.out]
  exact ⟨rfl, Below.refl _ _⟩
 ·have HC := lH (fun W => figures_16 n h h' W)
  have HT : Hid (hexB n = ⟨(figL 16 n.natAbs).toArray⟩) := by show hexB n = _; unfold hexB; rw [if_neg hn]
  have hn' : 0 ≤ n := by omega
  go_enter Tryz.func143, Tryz.ntmps143
  go_wp2_with (go_at_call 172; refine (HC.out _).mono ?_; rintro e' w' ⟨rfl, hb⟩; have HB := lH hb; clear hb)
  go_ret
  rw [HT.out]
  exact ⟨rfl, HB.out⟩
theorem cline_any (n : Int) (h : -9223372036854775808 ≤ n) (h' : n ≤ 9223372036854775807) (w : World) : Calls Tryz.prog 113 #[.int .i64 n] w fun e w' => e = .returned (.string (clineB n)) ∧ Below w.heap.size w w' := by
 by_cases hn : n < 0
 ·have HT : Hid (clineB n = ⟨#[]⟩) := by show clineB n = _; unfold clineB; rw [if_pos hn]
  go_enter Tryz.func113, Tryz.ntmps113
  go_wp2_with fail
  go_ret
  rw [HT.out]
  exact ⟨rfl, Below.refl _ _⟩
 ·have hz := hexB_size n h'
  obtain ⟨X, hX⟩ : ∃ X, X = hexB n := ⟨_, rfl⟩
  have HC : Hid (∀ W : World, Calls Tryz.prog 143 #[.int .i64 n] W fun e w' => e = .returned (.string X) ∧ Below W.heap.size W w') := fun W => by rw [hX]; exact hextext_any n h h' W
  have HT : Hid (clineB n = X ++ ⟨#[13, 10]⟩) := by show clineB n = _; unfold clineB; rw [if_neg hn, hX]; rfl
  rw [← hX] at hz
  have hadd := fun (W : World) => run_string_add_sum (P := Tryz.prog) (w := W) X ⟨#[13, 10]⟩ (by show X.size + 2 ≤ _; omega)
  have hn' : 0 ≤ n := by omega
  clear hX hz
  go_enter Tryz.func113, Tryz.ntmps113
  go_wp2_with (go_at_call 143; refine (HC.out _).mono ?_; rintro e' w' ⟨rfl, hb⟩; have HB := lH hb; clear hb)
  go_ret
  rw [HT.out]
  exact ⟨rfl, HB.out⟩
theorem begin_any (n : Int) (h : -9223372036854775808 ≤ n) (h' : n ≤ 9223372036854775807) (w : World) : Calls Tryz.prog 74 #[.int .i64 n] w fun e w' => e = .returned (.string (beginB n)) ∧ Below w.heap.size w w' := by
 by_cases hn : n < 1
 ·have HT : Hid (beginB n = ⟨#[]⟩) := by show beginB n = _; unfold beginB; rw [if_pos hn]
  go_enter Tryz.func74, Tryz.ntmps74
  go_wp2_with fail
  go_ret
  rw [HT.out]
  exact ⟨rfl, Below.refl _ _⟩
 ·have HC := lH (fun W => cline_any n h h' W)
  have HT : Hid (beginB n = clineB n) := by show beginB n = _; unfold beginB; rw [if_neg hn]
  have hn' : 1 ≤ n := by omega
  go_enter Tryz.func74, Tryz.ntmps74
  go_wp2_with (go_at_call 113; refine (HC.out _).mono ?_; rintro e' w' ⟨rfl, hb⟩; have HB := lH hb; clear hb)
  go_ret
  rw [HT.out]
  exact ⟨rfl, HB.out⟩
end Go.Proofs.YtaojfiegnebbdaaGreatDoor
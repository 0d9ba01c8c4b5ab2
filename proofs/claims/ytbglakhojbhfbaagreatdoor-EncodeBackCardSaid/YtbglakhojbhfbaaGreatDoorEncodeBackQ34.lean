/- Texts packed for one claim, 34 of 49: Text Hex. -/
import Derived.Test.YtbglakhojbhfbaaGreatDoorEncodeBackQ14
import Derived.Test.YtbglakhojbhfbaaGreatDoorShelf
import Derived.Lib.Repeat
set_option linter.unusedSimpArgs false
set_option linter.unusedVariables false
-- Text
namespace Go.Proofs.YtbglakhojbhfbaaGreatDoor
open Go.RowKit
theorem figL_low {b n : Nat} (h : n < b) : figL b n = [figD n] := by rw [figL, dif_neg (fun h' => by omega)]
theorem figL_high {b n : Nat} (hb : 2 ≤ b) (h : b ≤ n) : figL b n = figL b (n / b) ++ [figD (n % b)] := by rw [figL, dif_pos ⟨hb, h⟩]
theorem figL_len {b : Nat} (hb : 2 ≤ b) : ∀ (k n : Nat), 1 ≤ k → n < 2 ^ k → (figL b n).length ≤ k
  | 0, _, h, _ => by omega
  | k + 1, n, _, h => by
    rcases Nat.lt_or_ge n b with h1 | h1
    · rw [figL_low h1]; simp
    · rw [figL_high hb h1, List.length_append]
      have h2 : n / b ≤ n / 2 := Nat.div_le_div_left hb (by omega)
      have h4 : 0 < k := by
        rcases Nat.eq_zero_or_pos k with rfl | h5
        · simp at h; omega
        · exact h5
      have := figL_len hb k (n / b) h4 (by rw [Nat.pow_succ] at h; omega)
      simp only [List.length_cons, List.length_nil]
      omega
def strOf : Value → ByteArray
  | .string s => s
  | _ => ⟨#[]⟩
/-- A number's text. -/
def textB (n : Int) : ByteArray := if n < 0 then ⟨#[45]⟩ ++ ⟨(figL 10 n.natAbs).toArray⟩ else ⟨(figL 10 n.natAbs).toArray⟩
theorem textB_size (n : Int) (h : -9223372036854775808 ≤ n) (h' : n ≤ 9223372036854775807) : (textB n).size ≤ 65 := by
  have := figL_len (b := 10) (by decide) 64 n.natAbs (by decide) (by omega)
  unfold textB
  split
  · rw [ByteArray.size_append]
    show 1 + (figL 10 n.natAbs).toArray.size ≤ 65
    simp; omega
  · show (figL 10 n.natAbs).toArray.size ≤ 65
    simp; omega
theorem figB_size {b : Nat} (hb : 2 ≤ b) (n : Nat) (h : n < 2 ^ 64) : (⟨(figL b n).toArray⟩ : ByteArray).size ≤ 64 := by
  have := figL_len hb 64 n (by decide) h
  show (figL b n).toArray.size ≤ 64
  simpa using this
theorem cons_bytes (c : UInt8) (acc : List UInt8) : (⟨#[c]⟩ : ByteArray) ++ ⟨acc.toArray⟩ = ⟨(c :: acc).toArray⟩ := by apply ByteArray.ext; simp
theorem sign_cut (k : Nat) (h : k < 16) : signS.extract k (k + 1) = ⟨#[figD k]⟩ := by
  have h3 : ∀ k, k < 16 → (signS.extract k (k + 1)) = ⟨#[figD k]⟩ := by decide
  exact h3 k h
def zerosB (n : Nat) : ByteArray := ⟨(List.replicate n 48).toArray⟩
/-- A number's text, filled with zeros ahead. -/
def padB (n wide : Int) : ByteArray := if n < 0 then textB n else zerosB (min wide 20 - (textB n).size).toNat ++ textB n
theorem zerosB_zero (T : ByteArray) : zerosB 0 ++ T = T := by apply ByteArray.ext; simp [zerosB]
theorem zerosB_succ (k : Nat) (T : ByteArray) : (⟨#[48]⟩ : ByteArray) ++ (zerosB k ++ T) = zerosB (k + 1) ++ T := by
  rw [← ByteArray.append_assoc]
  exact congrArg (· ++ T) (cons_bytes 48 (List.replicate k 48))
theorem zerosB_size (k : Nat) : (zerosB k).size = k := by show (List.replicate k (48 : UInt8)).toArray.size = k; simp
theorem repeat_zeros : ∀ k : Nat, Lib.repeatL [48] k = List.replicate k 48
  | 0 => rfl
  | k + 1 => by rw [Lib.repeatL, repeat_zeros k, List.replicate_succ]; rfl
theorem padB_done {n wide : Int} {k : Nat} (hn : 0 ≤ n) (hk : (k : Int) ≤ max 0 (min wide 20 - (textB n).size)) (h : ¬ ((k : Int) + (textB n).size < wide ∧ (k : Int) + (textB n).size < 20)) : zerosB k ++ textB n = padB n wide := by
  unfold padB
  rw [if_neg (by omega)]
  congr 1
  congr 1
  omega
end Go.Proofs.YtbglakhojbhfbaaGreatDoor
-- Hex
namespace Go.Proofs.YtbglakhojbhfbaaGreatDoor
open Go.RowKit
/-- A number's text to the base 16; nothing below 0. -/
def hexB (n : Int) : ByteArray := if n < 0 then ⟨#[]⟩ else ⟨(figL 16 n.natAbs).toArray⟩
def crlf : ByteArray := ⟨#[13, 10]⟩
/-- The line ahead of a chunk. -/
def clineB (n : Int) : ByteArray := if n < 0 then ⟨#[]⟩ else hexB n ++ crlf
def beginB (n : Int) : ByteArray := if n < 1 then ⟨#[]⟩ else clineB n
theorem hexB_size (n : Int) (h' : n ≤ 9223372036854775807) : (hexB n).size ≤ 64 := by
  unfold hexB
  split
  · exact Nat.zero_le _
  · exact figB_size (by decide) _ (by omega)
theorem clineB_size (n : Int) (h' : n ≤ 9223372036854775807) : (clineB n).size ≤ 66 := by
  have := hexB_size n h'
  unfold clineB
  split
  · exact Nat.zero_le _
  · rw [ByteArray.size_append]; show (hexB n).size + 2 ≤ 66; omega
theorem beginB_size (n : Int) (h' : n ≤ 9223372036854775807) : (beginB n).size ≤ 66 := by
  have := clineB_size n h'
  unfold beginB
  split
  · exact Nat.zero_le _
  · exact this
set_option maxRecDepth 100000 in
theorem hextext_any (n : Int) (h : -9223372036854775808 ≤ n) (h' : n ≤ 9223372036854775807) (w : World) : Calls Tryz.prog 57 #[.int .i64 n] w fun e w' => e = .returned (.string (hexB n)) ∧ Below w.heap.size w w' := by
  by_cases hn : n < 0
  · have HT : Hid (hexB n = ⟨#[]⟩) := by show hexB n = _; unfold hexB; rw [if_pos hn]
    go_enter Tryz.func57, Tryz.ntmps57
    go_wp2_with fail
    go_ret
    rw [HT.out]
    exact ⟨rfl, Below.refl _ _⟩
  · have HC := Lib.hid (fun W => figures_16 n h h' W)
    have HT : Hid (hexB n = ⟨(figL 16 n.natAbs).toArray⟩) := by show hexB n = _; unfold hexB; rw [if_neg hn]
    have hn' : 0 ≤ n := by omega
    go_enter Tryz.func57, Tryz.ntmps57
    go_wp2_with (go_at_call 66; refine (HC.out _).mono ?_; rintro e' w' ⟨rfl, hb⟩; have HB := Lib.hid hb; clear hb)
    go_ret
    rw [HT.out]
    exact ⟨rfl, HB.out⟩
set_option maxRecDepth 100000 in
theorem cline_any (n : Int) (h : -9223372036854775808 ≤ n) (h' : n ≤ 9223372036854775807) (w : World) : Calls Tryz.prog 44 #[.int .i64 n] w fun e w' => e = .returned (.string (clineB n)) ∧ Below w.heap.size w w' := by
  by_cases hn : n < 0
  · have HT : Hid (clineB n = ⟨#[]⟩) := by show clineB n = _; unfold clineB; rw [if_pos hn]
    go_enter Tryz.func44, Tryz.ntmps44
    go_wp2_with fail
    go_ret
    rw [HT.out]
    exact ⟨rfl, Below.refl _ _⟩
  · have hz := hexB_size n h'
    obtain ⟨X, hX⟩ : ∃ X, X = hexB n := ⟨_, rfl⟩
    have HC : Hid (∀ W : World, Calls Tryz.prog 57 #[.int .i64 n] W fun e w' => e = .returned (.string X) ∧ Below W.heap.size W w') := fun W => by rw [hX]; exact hextext_any n h h' W
    have HT : Hid (clineB n = X ++ ⟨#[13, 10]⟩) := by show clineB n = _; unfold clineB; rw [if_neg hn, hX]; rfl
    rw [← hX] at hz
    have hadd := fun (W : World) => run_string_add_sum (P := Tryz.prog) (w := W) X ⟨#[13, 10]⟩ (by show X.size + 2 ≤ _; omega)
    have hn' : 0 ≤ n := by omega
    clear hX hz
    go_enter Tryz.func44, Tryz.ntmps44
    go_wp2_with (go_at_call 57; refine (HC.out _).mono ?_; rintro e' w' ⟨rfl, hb⟩; have HB := Lib.hid hb; clear hb)
    go_ret
    rw [HT.out]
    exact ⟨rfl, HB.out⟩
set_option maxRecDepth 100000 in
theorem begin_any (n : Int) (h : -9223372036854775808 ≤ n) (h' : n ≤ 9223372036854775807) (w : World) : Calls Tryz.prog 22 #[.int .i64 n] w fun e w' => e = .returned (.string (beginB n)) ∧ Below w.heap.size w w' := by
  by_cases hn : n < 1
  · have HT : Hid (beginB n = ⟨#[]⟩) := by show beginB n = _; unfold beginB; rw [if_pos hn]
    go_enter Tryz.func22, Tryz.ntmps22
    go_wp2_with fail
    go_ret
    rw [HT.out]
    exact ⟨rfl, Below.refl _ _⟩
  · have HC := Lib.hid (fun W => cline_any n h h' W)
    have HT : Hid (beginB n = clineB n) := by show beginB n = _; unfold beginB; rw [if_neg hn]
    have hn' : 1 ≤ n := by omega
    go_enter Tryz.func22, Tryz.ntmps22
    go_wp2_with (go_at_call 44; refine (HC.out _).mono ?_; rintro e' w' ⟨rfl, hb⟩; have HB := Lib.hid hb; clear hb)
    go_ret
    rw [HT.out]
    exact ⟨rfl, HB.out⟩
end Go.Proofs.YtbglakhojbhfbaaGreatDoor

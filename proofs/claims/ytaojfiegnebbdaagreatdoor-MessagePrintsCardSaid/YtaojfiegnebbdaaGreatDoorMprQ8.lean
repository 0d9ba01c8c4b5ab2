/- Texts packed for one claim, 8 of 50: Text Hex. -/
import Derived.Test.YtaojfiegnebbdaaGreatDoorMprQ7
import Derived.Test.YtaojfiegnebbdaaGreatDoorMprShelf
import Derived.Lib.Repeat
set_option maxRecDepth 100000
set_option maxHeartbeats 16000000
set_option linter.unusedSimpArgs false
set_option linter.unusedVariables false
-- Text
namespace Go.Proofs.YtaojfiegnebbdaaGreatDoor
open Go.RowKit
theorem figL_low {b n : Nat} (h : n < b) : figL b n = [figD n] := by rw [figL, dif_neg (fun h' => by omega)]
theorem figL_high {b n : Nat} (hb : 2 ≤ b) (h : b ≤ n) : figL b n = figL b (n / b) ++ [figD (n % b)] := by rw [figL, dif_pos ⟨hb, h⟩]
theorem figL_len {b : Nat} (hb : 2 ≤ b) : ∀ (k n : Nat), 1 ≤ k → n < 2 ^ k → (figL b n).length ≤ k
 | 0, _, h, _ => by omega
 | k + 1, n, _, h => by
   rcases Nat.lt_or_ge n b with h1 | h1
   ·rw [figL_low h1]; simp
   ·rw [figL_high hb h1, List.length_append]
    have h2 : n / b ≤ n / 2 := Nat.div_le_div_left hb (by omega)
    have h4 : 0 < k := by
     rcases Nat.eq_zero_or_pos k with rfl | h5
     ·simp at h; omega
     ·exact h5
    have := figL_len hb k (n / b) h4 (by rw [Nat.pow_succ] at h; omega)
    simp only [List.length_cons, List.length_nil]
    omega
def strOf : Value → ByteArray
 | .string s => s
 | _ => ⟨#[]⟩
def textB (n : Int) : ByteArray := if n < 0 then ⟨#[45]⟩ ++ ⟨(figL 10 n.natAbs).toArray⟩ else ⟨(figL 10 n.natAbs).toArray⟩
theorem textB_size (n : Int) (h : -9223372036854775808 ≤ n) (h' : n ≤ 9223372036854775807) : (textB n).size ≤ 65 := by
 have := figL_len (b := 10) (by decide) 64 n.natAbs (by decide) (by omega)
 unfold textB
 split
 ·rw [ByteArray.size_append]
  show 1 + (figL 10 n.natAbs).toArray.size ≤ 65
  simp; omega
 ·show (figL 10 n.natAbs).toArray.size ≤ 65
  simp; omega
theorem figB_size {b : Nat} (hb : 2 ≤ b) (n : Nat) (h : n < 2 ^ 64) : (⟨(figL b n).toArray⟩ : ByteArray).size ≤ 64 := by
 have := figL_len hb 64 n (by decide) h
 show (figL b n).toArray.size ≤ 64
 simpa using this
theorem cons_bytes (c : UInt8) (acc : List UInt8) : (⟨#[c]⟩ : ByteArray) ++ ⟨acc.toArray⟩ = ⟨(c :: acc).toArray⟩ := by apply ByteArray.ext; simp
theorem sign_cut (k : Nat) (h : k < 16) : signS.extract k (k + 1) = ⟨#[figD k]⟩ := by
 have h3 : ∀ k, k < 16 → (signS.extract k (k + 1)) = ⟨#[figD k]⟩ := by decide
 exact h3 k h
theorem text_any (n : Int) (h : -9223372036854775808 ≤ n) (h' : n ≤ 9223372036854775807) (w : World) : Calls Tryz.prog 144 #[.int .i64 n] w fun e w' => e = .returned (.string (textB n)) ∧ Below w.heap.size w w' := by
 have hz := figB_size (b := 10) (by decide) n.natAbs (by omega)
 obtain ⟨F, hF⟩ : ∃ F : ByteArray, F = ⟨(figL 10 n.natAbs).toArray⟩ := ⟨_, rfl⟩
 have HC : Hid (∀ W : World, Calls Tryz.prog 172 #[.int .i64 n, .int .i64 10] W fun e w' => e = .returned (.string F) ∧ Below W.heap.size W w') := by
  show ∀ W : World, Calls Tryz.prog 172 #[.int .i64 n, .int .i64 10] W fun e w' => e = .returned (.string F) ∧ Below W.heap.size W w'
  rw [hF]; exact figures_10 n h h'
 rw [← hF] at hz
 by_cases hn : n < 0
 ·have HT : Hid (textB n = ⟨#[45]⟩ ++ F) := by show textB n = _; unfold textB; rw [if_pos hn, hF]
  have hadd := fun (W : World) => run_string_add_sum (P := Tryz.prog) (w := W) ⟨#[45]⟩ F (by show 1 + F.size ≤ _; omega)
  clear hF hz h h'
  go_enter Tryz.func144, Tryz.ntmps144
  go_wp2_with (go_at_call 172; refine (HC.out _).mono ?_; rintro e' w' ⟨rfl, hb⟩; have HB := lH hb; clear hb)
  go_ret
  rw [HT.out]
  exact ⟨rfl, HB.out⟩
 ·have HT : Hid (textB n = F) := by show textB n = _; unfold textB; rw [if_neg hn, hF]
  have hn' : 0 ≤ n := by omega
  clear hF hz h h'
  go_enter Tryz.func144, Tryz.ntmps144
  go_wp2_with (go_at_call 172; refine (HC.out _).mono ?_; rintro e' w' ⟨rfl, hb⟩; have HB := lH hb; clear hb)
  go_ret
  rw [HT.out]
  exact ⟨rfl, HB.out⟩
theorem rdigits_10 (n : Nat) (h : n < 18446744073709551616) (w : World) : Calls Tryz.prog 177 #[.int .u64 n, .int .u64 10] w fun e w' => e = .returned (.string ⟨(figL 10 n).toArray⟩) ∧ ∃ m, w.drewN m = w' := by
 go_enter Tryz.func177, Tryz.ntmps177
 go_wp2_with fail
 go_loopw [0, 6] (fun v a wr => ∃ (k : Nat) (acc : List UInt8), v = .int .u64 k ∧ a = .string ⟨acc.toArray⟩ ∧ k < 18446744073709551616 ∧ figL 10 k ++ acc = figL 10 n ∧ k * 2 ^ acc.length < 2 ^ 64 ∧ (acc = [] ∨ 1 ≤ k) ∧ ∃ m, w.drewN m = wr) (fun v _ _ => (intOf v).toNat)
 case atStart => exact ⟨n, [], rfl, rfl, h, List.append_nil _, by simpa using h, .inl rfl, 0, rfl⟩
 case round =>
  obtain ⟨k, acc, rfl, rfl, hk, hf, hp, ha, hw⟩ := hrel
  have hlen : acc.length ≤ 64 := by
   rcases ha with rfl | ha
   ·simp
   ·have h4 : 2 ^ acc.length < 2 ^ 64 := Nat.lt_of_le_of_lt (Nat.le_mul_of_pos_left _ (by omega)) hp
    have h5 := (Nat.pow_lt_pow_iff_right (by decide : 1 < 2)).1 h4
    omega
  have hu : ∀ i : Nat, i < 16 → ∀ W : World, (Instr.slice 9 (.string ⟨#[48, 49, 50, 51, 52, 53, 54, 55, 56, 57, 97, 98, 99, 100, 101, 102]⟩) (some (.int .u64 (i : Int))) (some (.int .u64 ((i : Int) + 1))) none).run Tryz.prog W = .ok (.string ⟨#[figD i]⟩) W := fun i hi W => by
   have h1 := run_slice_string (P := Tryz.prog) (w := W) 9 signS .u64 .u64 (i : Int) ((i : Int) + 1) Tryz.underlying9 (by omega) (by omega) (by show _ ≤ (16 : Int); omega)
   rw [show ((i : Int)).toNat = i from rfl, show ((i : Int) + 1).toNat = i + 1 from rfl, sign_cut i hi] at h1
   exact h1
  by_cases hlt : k < 10
  ·have hs := hu k (by omega)
   obtain ⟨D, hD⟩ : ∃ D : ByteArray, D = ⟨#[figD k]⟩ := ⟨_, rfl⟩
   obtain ⟨A, hA⟩ : ∃ A : ByteArray, A = ⟨acc.toArray⟩ := ⟨_, rfl⟩
   have hDs : D.size = 1 := by rw [hD]; rfl
   have hAs : A.size ≤ 64 := by rw [hA]; show acc.toArray.size ≤ 64; simpa using hlen
   have hadd := fun (W : World) => run_string_add_sum (P := Tryz.prog) (w := W) D A (by omega)
   have HR : Hid (D ++ A = ⟨(figL 10 n).toArray⟩) := by show D ++ A = _; rw [hD, hA, cons_bytes, ← hf, figL_low hlt]; rfl
   have HW := lH hw
   rw [← hD] at hs
   rw [← hA]
   have hc : decide ((k : Int) < 10) = true := dT (by omega)
   have hc' : (k : Int) < 10 := by omega
   clear hu hD hA hDs hAs hf hp ha hw hlen hlt h hk
   go_wp2_with fail
   go_ret
   rw [HR.out]
   exact ⟨rfl, HW.out⟩
  ·have hs := hu (k % 10) (by omega)
   obtain ⟨d, hd⟩ : ∃ d, d = k % 10 := ⟨_, rfl⟩
   obtain ⟨q, hq⟩ : ∃ q, q = k / 10 := ⟨_, rfl⟩
   rw [← hd] at hs
   have hs : ∀ W : World, (Instr.slice 9 (.string ⟨#[48, 49, 50, 51, 52, 53, 54, 55, 56, 57, 97, 98, 99, 100, 101, 102]⟩) (some (.int .u64 ((k : Int).tmod 10))) (some (.int .u64 (IntKind.u64.wrap ((k : Int).tmod 10 + 1)))) none).run Tryz.prog W = .ok (.string ⟨#[figD d]⟩) W := by
    have e1 : (k : Int).tmod 10 = (d : Int) := by rw [hd]; rfl
    rw [e1, IntWalk.u64_in ((d : Int) + 1) ⟨by omega, by omega⟩]
    exact hs
   have hdv : Value.int .u64 ((k : Int).tmod 10) = .int .u64 (d : Int) := by rw [hd]; rfl
   have hqv : Value.int .u64 ((k : Int).tdiv 10) = .int .u64 (q : Int) := by rw [hq]; rfl
   have hd16 : (d : Int) < 16 := by omega
   obtain ⟨D, hD⟩ : ∃ D : ByteArray, D = ⟨#[figD d]⟩ := ⟨_, rfl⟩
   obtain ⟨A, hA⟩ : ∃ A : ByteArray, A = ⟨acc.toArray⟩ := ⟨_, rfl⟩
   have hDs : D.size = 1 := by rw [hD]; rfl
   have hAs : A.size ≤ 64 := by rw [hA]; show acc.toArray.size ≤ 64; simpa using hlen
   have hadd := fun (W : World) => run_string_add_sum (P := Tryz.prog) (w := W) D A (by omega)
   have HR : Hid (D ++ A = ⟨(figD d :: acc).toArray⟩) := by show D ++ A = _; rw [hD, hA, cons_bytes]
   have HN : Hid (q < 18446744073709551616 ∧ figL 10 q ++ (figD d :: acc) = figL 10 n ∧ q * 2 ^ (figD d :: acc).length < 2 ^ 64 ∧ 1 ≤ q ∧ q < k) := by
    show _ ∧ _
    refine ⟨by omega, ?_, ?_, by omega, by omega⟩
    ·rw [← hf, figL_high (b := 10) (n := k) (by decide) (by omega), List.append_assoc, hq, hd]; rfl
    ·rw [List.length_cons, Nat.pow_succ, Nat.mul_comm (2 ^ acc.length) 2, ← Nat.mul_assoc]
     exact Nat.lt_of_le_of_lt (Nat.mul_le_mul_right _ (by omega)) hp
   have HW := lH hw
   rw [← hD] at hs
   rw [← hA]
   have hc' : (10 : Int) ≤ k := by omega
   have hk' : (k : Int) < 18446744073709551616 := by omega
   clear hu hD hA hDs hAs hf hp ha hw hlen hlt h hk hd hq
   go_wp2_with fail
   go_quiet (fail)
   go_wp2_with fail
   go_roundw
   case rel =>
    obtain ⟨m1, hm1⟩ := HW.out
    exact ⟨_, _, rfl, by rw [HR.out], HN.out.1, HN.out.2.1, HN.out.2.2.1, .inr HN.out.2.2.2.1, m1 + nq, by rw [← hm1, World.drewN_drewN]⟩
   case measure => have := HN.out.2.2.2.2; simp [intOf]; omega
theorem rdigits_16 (n : Nat) (h : n < 18446744073709551616) (w : World) : Calls Tryz.prog 177 #[.int .u64 n, .int .u64 16] w fun e w' => e = .returned (.string ⟨(figL 16 n).toArray⟩) ∧ ∃ m, w.drewN m = w' := by
 go_enter Tryz.func177, Tryz.ntmps177
 go_wp2_with fail
 go_loopw [0, 6] (fun v a wr => ∃ (k : Nat) (acc : List UInt8), v = .int .u64 k ∧ a = .string ⟨acc.toArray⟩ ∧ k < 18446744073709551616 ∧ figL 16 k ++ acc = figL 16 n ∧ k * 2 ^ acc.length < 2 ^ 64 ∧ (acc = [] ∨ 1 ≤ k) ∧ ∃ m, w.drewN m = wr) (fun v _ _ => (intOf v).toNat)
 case atStart => exact ⟨n, [], rfl, rfl, h, List.append_nil _, by simpa using h, .inl rfl, 0, rfl⟩
 case round =>
  obtain ⟨k, acc, rfl, rfl, hk, hf, hp, ha, hw⟩ := hrel
  have hlen : acc.length ≤ 64 := by
   rcases ha with rfl | ha
   ·simp
   ·have h4 : 2 ^ acc.length < 2 ^ 64 := Nat.lt_of_le_of_lt (Nat.le_mul_of_pos_left _ (by omega)) hp
    have h5 := (Nat.pow_lt_pow_iff_right (by decide : 1 < 2)).1 h4
    omega
  have hu : ∀ i : Nat, i < 16 → ∀ W : World, (Instr.slice 9 (.string ⟨#[48, 49, 50, 51, 52, 53, 54, 55, 56, 57, 97, 98, 99, 100, 101, 102]⟩) (some (.int .u64 (i : Int))) (some (.int .u64 ((i : Int) + 1))) none).run Tryz.prog W = .ok (.string ⟨#[figD i]⟩) W := fun i hi W => by
   have h1 := run_slice_string (P := Tryz.prog) (w := W) 9 signS .u64 .u64 (i : Int) ((i : Int) + 1) Tryz.underlying9 (by omega) (by omega) (by show _ ≤ (16 : Int); omega)
   rw [show ((i : Int)).toNat = i from rfl, show ((i : Int) + 1).toNat = i + 1 from rfl, sign_cut i hi] at h1
   exact h1
  by_cases hlt : k < 16
  ·have hs := hu k (by omega)
   obtain ⟨D, hD⟩ : ∃ D : ByteArray, D = ⟨#[figD k]⟩ := ⟨_, rfl⟩
   obtain ⟨A, hA⟩ : ∃ A : ByteArray, A = ⟨acc.toArray⟩ := ⟨_, rfl⟩
   have hDs : D.size = 1 := by rw [hD]; rfl
   have hAs : A.size ≤ 64 := by rw [hA]; show acc.toArray.size ≤ 64; simpa using hlen
   have hadd := fun (W : World) => run_string_add_sum (P := Tryz.prog) (w := W) D A (by omega)
   have HR : Hid (D ++ A = ⟨(figL 16 n).toArray⟩) := by show D ++ A = _; rw [hD, hA, cons_bytes, ← hf, figL_low hlt]; rfl
   have HW := lH hw
   rw [← hD] at hs
   rw [← hA]
   have hc : decide ((k : Int) < 16) = true := dT (by omega)
   have hc' : (k : Int) < 16 := by omega
   clear hu hD hA hDs hAs hf hp ha hw hlen hlt h hk
   go_wp2_with fail
   go_ret
   rw [HR.out]
   exact ⟨rfl, HW.out⟩
  ·have hs := hu (k % 16) (by omega)
   obtain ⟨d, hd⟩ : ∃ d, d = k % 16 := ⟨_, rfl⟩
   obtain ⟨q, hq⟩ : ∃ q, q = k / 16 := ⟨_, rfl⟩
   rw [← hd] at hs
   have hs : ∀ W : World, (Instr.slice 9 (.string ⟨#[48, 49, 50, 51, 52, 53, 54, 55, 56, 57, 97, 98, 99, 100, 101, 102]⟩) (some (.int .u64 ((k : Int).tmod 16))) (some (.int .u64 (IntKind.u64.wrap ((k : Int).tmod 16 + 1)))) none).run Tryz.prog W = .ok (.string ⟨#[figD d]⟩) W := by
    have e1 : (k : Int).tmod 16 = (d : Int) := by rw [hd]; rfl
    rw [e1, IntWalk.u64_in ((d : Int) + 1) ⟨by omega, by omega⟩]
    exact hs
   have hdv : Value.int .u64 ((k : Int).tmod 16) = .int .u64 (d : Int) := by rw [hd]; rfl
   have hqv : Value.int .u64 ((k : Int).tdiv 16) = .int .u64 (q : Int) := by rw [hq]; rfl
   have hd16 : (d : Int) < 16 := by omega
   obtain ⟨D, hD⟩ : ∃ D : ByteArray, D = ⟨#[figD d]⟩ := ⟨_, rfl⟩
   obtain ⟨A, hA⟩ : ∃ A : ByteArray, A = ⟨acc.toArray⟩ := ⟨_, rfl⟩
   have hDs : D.size = 1 := by rw [hD]; rfl
   have hAs : A.size ≤ 64 := by rw [hA]; show acc.toArray.size ≤ 64; simpa using hlen
   have hadd := fun (W : World) => run_string_add_sum (P := Tryz.prog) (w := W) D A (by omega)
   have HR : Hid (D ++ A = ⟨(figD d :: acc).toArray⟩) := by show D ++ A = _; rw [hD, hA, cons_bytes]
   have HN : Hid (q < 18446744073709551616 ∧ figL 16 q ++ (figD d :: acc) = figL 16 n ∧ q * 2 ^ (figD d :: acc).length < 2 ^ 64 ∧ 1 ≤ q ∧ q < k) := by
    show _ ∧ _
    refine ⟨by omega, ?_, ?_, by omega, by omega⟩
    ·rw [← hf, figL_high (b := 16) (n := k) (by decide) (by omega), List.append_assoc, hq, hd]; rfl
    ·rw [List.length_cons, Nat.pow_succ, Nat.mul_comm (2 ^ acc.length) 2, ← Nat.mul_assoc]
     exact Nat.lt_of_le_of_lt (Nat.mul_le_mul_right _ (by omega)) hp
   have HW := lH hw
   rw [← hD] at hs
   rw [← hA]
   have hc' : (16 : Int) ≤ k := by omega
   have hk' : (k : Int) < 18446744073709551616 := by omega
   clear hu hD hA hDs hAs hf hp ha hw hlen hlt h hk hd hq
   go_wp2_with fail
   go_quiet (fail)
   go_wp2_with fail
   go_roundw
   case rel =>
    obtain ⟨m1, hm1⟩ := HW.out
    exact ⟨_, _, rfl, by rw [HR.out], HN.out.1, HN.out.2.1, HN.out.2.2.1, .inr HN.out.2.2.2.1, m1 + nq, by rw [← hm1, World.drewN_drewN]⟩
   case measure => have := HN.out.2.2.2.2; simp [intOf]; omega
theorem rtext_any (n : Int) (h : -9223372036854775808 ≤ n) (h' : n ≤ 9223372036854775807) (w : World) : Calls Tryz.prog 147 #[.int .i64 n] w fun e w' => e = .returned (.string (textB n)) ∧ ∃ m, w.drewN m = w' := by
 have hz := figB_size (b := 10) (by decide) n.natAbs (by omega)
 obtain ⟨F, hF⟩ : ∃ F : ByteArray, F = ⟨(figL 10 n.natAbs).toArray⟩ := ⟨_, rfl⟩
 obtain ⟨a, ha⟩ : ∃ a : Int, a = n.natAbs := ⟨_, rfl⟩
 have HC : Hid (∀ (r : Int) (W : World), r = a → Calls Tryz.prog 177 #[.int .u64 r, .int .u64 10] W fun e w' => e = .returned (.string F) ∧ ∃ m, W.drewN m = w') := by
  show ∀ (r : Int) (W : World), r = a → Calls Tryz.prog 177 #[.int .u64 r, .int .u64 10] W fun e w' => e = .returned (.string F) ∧ ∃ m, W.drewN m = w'
  rintro r W rfl
  rw [hF, ha]; exact rdigits_10 n.natAbs (by omega) W
 rw [← hF] at hz
 by_cases hn : n < 0
 ·have HT : Hid (textB n = ⟨#[45]⟩ ++ F) := by show textB n = _; unfold textB; rw [if_pos hn, hF]
  have hadd := fun (W : World) => run_string_add_sum (P := Tryz.prog) (w := W) ⟨#[45]⟩ F (by show 1 + F.size ≤ _; omega)
  have he : Hid (IntKind.u64.wrap (IntKind.u64.wrap (-(n + 1)) + 1) = a) := by
   show _ = a
   rw [IntWalk.u64_in (-(n + 1)) ⟨by omega, by omega⟩, IntWalk.u64_in (-(n + 1) + 1) ⟨by omega, by omega⟩]
   omega
  have he2 : Hid (-(n + 1) + 1 = a) := by show _ = a; omega
  clear hF hz ha
  go_enter Tryz.func147, Tryz.ntmps147
  go_wp2_with (go_at_call 177; refine (HC.out _ _ ?hr).mono ?_; (case hr => first | exact he2.out | exact he.out | (simp only [IntWalk.u64_in]; exact he2.out)); rintro e' w' ⟨rfl, m, rfl⟩)
  go_ret
  rw [HT.out]
  exact ⟨rfl, _, rfl⟩
 ·have HT : Hid (textB n = F) := by show textB n = _; unfold textB; rw [if_neg hn, hF]
  have hn' : 0 ≤ n := by omega
  have he : Hid (IntKind.u64.wrap n = a) := by show _ = a; rw [IntWalk.u64_in n ⟨by omega, by omega⟩]; omega
  have he2 : Hid (n = a) := by show n = a; omega
  clear hF hz ha
  go_enter Tryz.func147, Tryz.ntmps147
  go_wp2_with (go_at_call 177; refine (HC.out _ _ ?hr).mono ?_; (case hr => first | exact he2.out | exact he.out); rintro e' w' ⟨rfl, m, rfl⟩)
  go_ret
  rw [HT.out]
  exact ⟨rfl, _, rfl⟩
def zerosB (n : Nat) : ByteArray := ⟨(List.replicate n 48).toArray⟩
def padB (n wide : Int) : ByteArray := if n < 0 then textB n else zerosB (min wide 20 - (textB n).size).toNat ++ textB n
theorem zerosB_zero (T : ByteArray) : zerosB 0 ++ T = T := by apply ByteArray.ext; simp [zerosB]
theorem zerosB_succ (k : Nat) (T : ByteArray) : (⟨#[48]⟩ : ByteArray) ++ (zerosB k ++ T) = zerosB (k + 1) ++ T := by
 rw [← ByteArray.append_assoc]
 exact congrArg (· ++ T) (cons_bytes 48 (List.replicate k 48))
theorem zerosB_size (k : Nat) : (zerosB k).size = k := by show (List.replicate k (48 : UInt8)).toArray.size = k; simp
theorem repeat_zeros : ∀ k : Nat, Lib.repeatL [48] k = List.replicate k 48
 | 0 => rfl
 | k + 1 => by rw [Lib.repeatL, repeat_zeros k, List.replicate_succ]; rfl
theorem rep_at (r : Int) (k : Nat) (h : r = (k : Int)) (hk : k ≤ 20) (w : World) : Calls Tryz.prog 145 #[.string ⟨#[48]⟩, .int .i64 r] w fun e w' => e = .returned (.string (zerosB k)) ∧ Below w.heap.size w w' := by
 subst h
 have := Tryz.strings_Repeat ⟨#[48]⟩ k w (by omega) (by show 1 * k ≤ _; omega)
 rw [show (⟨#[48]⟩ : ByteArray).data.toList = [48] from rfl, repeat_zeros] at this
 exact this
theorem pad_any (n wide : Int) (h : -9223372036854775808 ≤ n) (h' : n ≤ 9223372036854775807) (hw0 : 0 ≤ wide) (hw1 : wide ≤ 9223372036854775807) (w : World) :
 Calls Tryz.prog 115 #[.int .i64 n, .int .i64 wide] w fun e w' => e = .returned (.string (padB n wide)) ∧ Below w.heap.size w w' := by
 have hz := textB_size n h h'
 obtain ⟨T, hT⟩ : ∃ T, T = textB n := ⟨_, rfl⟩
 have HC : Hid (∀ W : World, Calls Tryz.prog 144 #[.int .i64 n] W fun e w' => e = .returned (.string T) ∧ Below W.heap.size W w') := by
  show ∀ W : World, Calls Tryz.prog 144 #[.int .i64 n] W fun e w' => e = .returned (.string T) ∧ Below W.heap.size W w'
  rw [hT]; exact text_any n h h'
 rw [← hT] at hz
 by_cases hn : n < 0
 ·have HP : Hid (padB n wide = T) := by show padB n wide = T; unfold padB; rw [if_pos hn, hT]
  clear hT
  go_enter Tryz.func115, Tryz.ntmps115
  go_wp2_with (go_at_call 144; refine (HC.out _).mono ?_; rintro e' w' ⟨rfl, hb⟩; have HB := lH hb; clear hb)
  go_ret
  rw [HP.out]
  exact ⟨rfl, HB.out⟩
 obtain ⟨m, hm⟩ : ∃ m, m = min wide 20 := ⟨_, rfl⟩
 obtain ⟨k, hk⟩ : ∃ k : Nat, k = (m - T.size).toNat := ⟨_, rfl⟩
 have hk20 : k ≤ 20 := by omega
 have HP : Hid (padB n wide = zerosB k ++ T) := by show padB n wide = _; unfold padB; rw [if_neg hn, hk, hm, hT]
 have hadd := fun (W : World) => run_string_add_sum (P := Tryz.prog) (w := W) (zerosB k) T (by rw [zerosB_size]; omega)
 have hn' : 0 ≤ n := by omega
 have hrep : Hid (∀ (r : Int) (W : World), r = max 0 (min wide 20 - (T.size : Int)) → Calls Tryz.prog 145 #[.string ⟨#[48]⟩, .int .i64 r] W fun e w' => e = .returned (.string (zerosB k)) ∧ Below W.heap.size W w') := fun r W e => rep_at r k (by omega) hk20 W
 clear hk hT hk20 hn hm
 go_enter Tryz.func115, Tryz.ntmps115
 go_wp2_with (first
  | (go_at_call 144; refine (HC.out _).mono ?_; rintro e' w' ⟨rfl, hb⟩; have HB := lH hb; clear hb)
  | (go_at_call 145; refine (hrep.out _ _ ?hr).mono ?_; (case hr => first | rfl | omega); rintro e' w2 ⟨rfl, hb⟩; have HB2 := lH hb; clear hb))
 go_ret
 rw [HP.out]
 exact ⟨rfl, HB.out.trans (HB2.out.mono HB.out.size)⟩
theorem padB_done {n wide : Int} {k : Nat} (hn : 0 ≤ n) (hk : (k : Int) ≤ max 0 (min wide 20 - (textB n).size)) (h : ¬ ((k : Int) + (textB n).size < wide ∧ (k : Int) + (textB n).size < 20)) : zerosB k ++ textB n = padB n wide := by
 unfold padB
 rw [if_neg (by omega)]
 congr 1
 congr 1
 omega
theorem rpad_any (n wide : Int) (h : -9223372036854775808 ≤ n) (h' : n ≤ 9223372036854775807) (w : World) :
 Calls Tryz.prog 120 #[.int .i64 n, .int .i64 wide] w fun e w' => e = .returned (.string (padB n wide)) ∧ ∃ m, w.drewN m = w' := by
 have hz := textB_size n h h'
 obtain ⟨T, hT⟩ : ∃ T, T = textB n := ⟨_, rfl⟩
 have HC : Hid (∀ W : World, Calls Tryz.prog 147 #[.int .i64 n] W fun e w' => e = .returned (.string T) ∧ ∃ m, W.drewN m = w') := by
  show ∀ W : World, Calls Tryz.prog 147 #[.int .i64 n] W fun e w' => e = .returned (.string T) ∧ ∃ m, W.drewN m = w'
  rw [hT]; exact rtext_any n h h'
 rw [← hT] at hz
 have HZ := lH hz
 by_cases hn : n < 0
 ·have HP : Hid (padB n wide = T) := by show padB n wide = T; unfold padB; rw [if_pos hn, hT]
  clear hT
  go_enter Tryz.func120, Tryz.ntmps120
  go_wp2_with (go_at_call 147; refine (HC.out _).mono ?_; rintro e' w' ⟨rfl, m, rfl⟩)
  refine wp_loop_rounds 1 ?_
  rw [rounds_succ]
  go_wp2_with fail
  go_ret
  rw [HP.out]
  exact ⟨rfl, _, rfl⟩
 ·have hn' : 0 ≤ n := by omega
  have HT := lH hT
  clear hT hn hz
  go_enter Tryz.func120, Tryz.ntmps120
  go_wp2_with (go_at_call 147; refine (HC.out _).mono ?_; rintro e' w' ⟨rfl, m, rfl⟩)
  go_loop [5] (fun v => ∃ k : Nat, v = .string (zerosB k ++ T) ∧ (k : Int) ≤ max 0 (min wide 20 - T.size)) (fun v => 20 - (strOf v).size)
  case atStart => exact ⟨0, by rw [zerosB_zero], by omega⟩
  case round =>
   obtain ⟨k, rfl, hk⟩ := hrel
   have HK := lH hk
   have hz := HZ.out
   obtain ⟨S, hS⟩ : ∃ S, S = zerosB k ++ T := ⟨_, rfl⟩
   have hSs : S.size = k + T.size := by rw [hS, ByteArray.size_append, zerosB_size]
   have HS := lH hS
   rw [← hS]
   by_cases hx : (S.size : Int) < wide ∧ (S.size : Int) < 20
   ·have h1 := hx.1
    have h2 := hx.2
    have hadd := fun (W : World) => run_string_add_sum (P := Tryz.prog) (w := W) ⟨#[48]⟩ S (by show 1 + S.size ≤ _; omega)
    have HN : Hid ((⟨#[48]⟩ : ByteArray) ++ S = zerosB (k + 1) ++ T) := by show _ = _; rw [hS, zerosB_succ]
    have HL : Hid (((k + 1 : Nat) : Int) ≤ max 0 (min wide 20 - T.size)) := by show ((k + 1 : Nat) : Int) ≤ max 0 (min wide 20 - T.size); omega
    have HSZ : Hid ((⟨#[48]⟩ ++ S : ByteArray).size = S.size + 1) := by show _ = _; rw [ByteArray.size_append]; show 1 + S.size = _; omega
    clear hS hx hk hSs
    go_wp2_with fail
    go_round
    case rel => exact ⟨k + 1, by rw [HN.out], HL.out⟩
    case measure => simp only [strOf]; rw [HSZ.out]; omega
   ·have HD : Hid (S = padB n wide) := by
     show S = padB n wide
     rw [hS, HT.out]
     refine padB_done hn' (by rw [← HT.out]; exact hk) ?_
     rw [← HT.out]
     omega
    by_cases hx1 : (S.size : Int) < wide
    ·have hx2 : decide ((S.size : Int) < 20) = false := by rw [decide_eq_false_iff_not]; omega
     clear hS hx hk hSs hz
     go_wp2_with fail
     go_ret
     rw [HD.out]
     exact ⟨rfl, _, rfl⟩
    ·have hx2 : decide ((S.size : Int) < wide) = false := by rw [decide_eq_false_iff_not]; omega
     clear hS hx hk hSs hz hx1
     go_wp2_with fail
     go_ret
     rw [HD.out]
     exact ⟨rfl, _, rfl⟩
end Go.Proofs.YtaojfiegnebbdaaGreatDoor
-- Hex
namespace Go.Proofs.YtaojfiegnebbdaaGreatDoor
open Go.RowKit
def hexB (n : Int) : ByteArray := if n < 0 then ⟨#[]⟩ else ⟨(figL 16 n.natAbs).toArray⟩
def crlf : ByteArray := ⟨#[13, 10]⟩
def clineB (n : Int) : ByteArray := if n < 0 then ⟨#[]⟩ else hexB n ++ crlf
def beginB (n : Int) : ByteArray := if n < 1 then ⟨#[]⟩ else clineB n
theorem hexB_size (n : Int) (h' : n ≤ 9223372036854775807) : (hexB n).size ≤ 64 := by
 unfold hexB
 split
 ·exact Nat.zero_le _
 ·exact figB_size (by decide) _ (by omega)
theorem clineB_size (n : Int) (h' : n ≤ 9223372036854775807) : (clineB n).size ≤ 66 := by
 have := hexB_size n h'
 unfold clineB
 split
 ·exact Nat.zero_le _
 ·rw [ByteArray.size_append]; show (hexB n).size + 2 ≤ 66; omega
theorem beginB_size (n : Int) (h' : n ≤ 9223372036854775807) : (beginB n).size ≤ 66 := by
 have := clineB_size n h'
 unfold beginB
 split
 ·exact Nat.zero_le _
 ·exact this
theorem hextext_any (n : Int) (h : -9223372036854775808 ≤ n) (h' : n ≤ 9223372036854775807) (w : World) : Calls Tryz.prog 143 #[.int .i64 n] w fun e w' => e = .returned (.string (hexB n)) ∧ Below w.heap.size w w' := by
 by_cases hn : n < 0
 ·have HT : Hid (hexB n = ⟨#[]⟩) := by show hexB n = _; unfold hexB; rw [if_pos hn]
  go_enter Tryz.func143, Tryz.ntmps143
  go_wp2_with fail
  go_ret
  rw [HT.out]
  exact ⟨rfl, Below.refl _ _⟩
 ·have HC := lH (fun W => figures_16 n h h' W)
  have HT : Hid (hexB n = ⟨(figL 16 n.natAbs).toArray⟩) := by show hexB n = _; unfold hexB; rw [if_neg hn]
  have hn' : 0 ≤ n := by omega
  go_enter Tryz.func143, Tryz.ntmps143
  go_wp2_with (go_at_call 172; refine (HC.out _).mono ?_; rintro e' w' ⟨rfl, hb⟩; have HB := lH hb; clear hb)
  go_ret
  rw [HT.out]
  exact ⟨rfl, HB.out⟩
theorem rhextext_any (n : Int) (h' : n ≤ 9223372036854775807) (w : World) : Calls Tryz.prog 146 #[.int .i64 n] w fun e w' => e = .returned (.string (hexB n)) ∧ Below w.heap.size w w' := by
 by_cases hn : n < 0
 ·have HT : Hid (hexB n = ⟨#[]⟩) := by show hexB n = _; unfold hexB; rw [if_pos hn]
  go_enter Tryz.func146, Tryz.ntmps146
  go_wp2_with fail
  go_ret
  rw [HT.out]
  exact ⟨rfl, Below.refl _ _⟩
 ·have HC : Hid (∀ (r : Int) (W : World), (r = n ∨ r = IntKind.u64.wrap n) → Calls Tryz.prog 177 #[.int .u64 r, .int .u64 16] W fun e w' => e = .returned (.string ⟨(figL 16 n.natAbs).toArray⟩) ∧ ∃ m, W.drewN m = w') := by
   show ∀ (r : Int) (W : World), (r = n ∨ r = IntKind.u64.wrap n) → _
   intro r W hr
   have e1 : r = n.natAbs := by
    rcases hr with rfl | rfl
    ·omega
    ·rw [IntWalk.u64_in n ⟨by omega, by omega⟩]; omega
   rw [e1]
   exact rdigits_16 n.natAbs (by omega) W
  have HT : Hid (hexB n = ⟨(figL 16 n.natAbs).toArray⟩) := by show hexB n = _; unfold hexB; rw [if_neg hn]
  have hn' : 0 ≤ n := by omega
  go_enter Tryz.func146, Tryz.ntmps146
  go_wp2_with (go_at_call 177; refine (HC.out _ _ ?hr).mono ?_; (case hr => first | exact .inl rfl | exact .inr rfl); rintro e' w' ⟨rfl, m, rfl⟩)
  go_ret
  rw [HT.out]
  exact ⟨rfl, rfl, rfl, rfl, nR _, fun _ _ => rfl⟩
theorem cline_any (n : Int) (h : -9223372036854775808 ≤ n) (h' : n ≤ 9223372036854775807) (w : World) : Calls Tryz.prog 113 #[.int .i64 n] w fun e w' => e = .returned (.string (clineB n)) ∧ Below w.heap.size w w' := by
 by_cases hn : n < 0
 ·have HT : Hid (clineB n = ⟨#[]⟩) := by show clineB n = _; unfold clineB; rw [if_pos hn]
  go_enter Tryz.func113, Tryz.ntmps113
  go_wp2_with fail
  go_ret
  rw [HT.out]
  exact ⟨rfl, Below.refl _ _⟩
 ·have hz := hexB_size n h'
  obtain ⟨X, hX⟩ : ∃ X, X = hexB n := ⟨_, rfl⟩
  have HC : Hid (∀ W : World, Calls Tryz.prog 143 #[.int .i64 n] W fun e w' => e = .returned (.string X) ∧ Below W.heap.size W w') := fun W => by rw [hX]; exact hextext_any n h h' W
  have HT : Hid (clineB n = X ++ ⟨#[13, 10]⟩) := by show clineB n = _; unfold clineB; rw [if_neg hn, hX]; rfl
  rw [← hX] at hz
  have hadd := fun (W : World) => run_string_add_sum (P := Tryz.prog) (w := W) X ⟨#[13, 10]⟩ (by show X.size + 2 ≤ _; omega)
  have hn' : 0 ≤ n := by omega
  clear hX hz
  go_enter Tryz.func113, Tryz.ntmps113
  go_wp2_with (go_at_call 143; refine (HC.out _).mono ?_; rintro e' w' ⟨rfl, hb⟩; have HB := lH hb; clear hb)
  go_ret
  rw [HT.out]
  exact ⟨rfl, HB.out⟩
theorem rcline_any (n : Int) (h : -9223372036854775808 ≤ n) (h' : n ≤ 9223372036854775807) (w : World) : Calls Tryz.prog 118 #[.int .i64 n] w fun e w' => e = .returned (.string (clineB n)) ∧ Below w.heap.size w w' := by
 by_cases hn : n < 0
 ·have HT : Hid (clineB n = ⟨#[]⟩) := by show clineB n = _; unfold clineB; rw [if_pos hn]
  go_enter Tryz.func118, Tryz.ntmps118
  go_wp2_with fail
  go_ret
  rw [HT.out]
  exact ⟨rfl, Below.refl _ _⟩
 ·have hz := hexB_size n h'
  obtain ⟨X, hX⟩ : ∃ X, X = hexB n := ⟨_, rfl⟩
  have HC : Hid (∀ W : World, Calls Tryz.prog 146 #[.int .i64 n] W fun e w' => e = .returned (.string X) ∧ Below W.heap.size W w') := fun W => by rw [hX]; exact rhextext_any n h' W
  have HT : Hid (clineB n = X ++ ⟨#[13, 10]⟩) := by show clineB n = _; unfold clineB; rw [if_neg hn, hX]; rfl
  rw [← hX] at hz
  have hadd := fun (W : World) => run_string_add_sum (P := Tryz.prog) (w := W) X ⟨#[13, 10]⟩ (by show X.size + 2 ≤ _; omega)
  have hn' : 0 ≤ n := by omega
  clear hX hz
  go_enter Tryz.func118, Tryz.ntmps118
  go_wp2_with (go_at_call 146; refine (HC.out _).mono ?_; rintro e' w' ⟨rfl, hb⟩; have HB := lH hb; clear hb)
  go_ret
  rw [HT.out]
  exact ⟨rfl, HB.out⟩
theorem begin_any (n : Int) (h : -9223372036854775808 ≤ n) (h' : n ≤ 9223372036854775807) (w : World) : Calls Tryz.prog 74 #[.int .i64 n] w fun e w' => e = .returned (.string (beginB n)) ∧ Below w.heap.size w w' := by
 by_cases hn : n < 1
 ·have HT : Hid (beginB n = ⟨#[]⟩) := by show beginB n = _; unfold beginB; rw [if_pos hn]
  go_enter Tryz.func74, Tryz.ntmps74
  go_wp2_with fail
  go_ret
  rw [HT.out]
  exact ⟨rfl, Below.refl _ _⟩
 ·have HC := lH (fun W => cline_any n h h' W)
  have HT : Hid (beginB n = clineB n) := by show beginB n = _; unfold beginB; rw [if_neg hn]
  have hn' : 1 ≤ n := by omega
  go_enter Tryz.func74, Tryz.ntmps74
  go_wp2_with (go_at_call 113; refine (HC.out _).mono ?_; rintro e' w' ⟨rfl, hb⟩; have HB := lH hb; clear hb)
  go_ret
  rw [HT.out]
  exact ⟨rfl, HB.out⟩
theorem rbegin_any (n : Int) (h : -9223372036854775808 ≤ n) (h' : n ≤ 9223372036854775807) (w : World) : Calls Tryz.prog 83 #[.int .i64 n] w fun e w' => e = .returned (.string (beginB n)) ∧ Below w.heap.size w w' := by
 by_cases hn : n < 1
 ·have HT : Hid (beginB n = ⟨#[]⟩) := by show beginB n = _; unfold beginB; rw [if_pos hn]
  go_enter Tryz.func83, Tryz.ntmps83
  go_wp2_with fail
  go_ret
  rw [HT.out]
  exact ⟨rfl, Below.refl _ _⟩
 ·have HC := lH (fun W => rcline_any n h h' W)
  have HT : Hid (beginB n = clineB n) := by show beginB n = _; unfold beginB; rw [if_neg hn]
  have hn' : 1 ≤ n := by omega
  go_enter Tryz.func83, Tryz.ntmps83
  go_wp2_with (go_at_call 118; refine (HC.out _).mono ?_; rintro e' w' ⟨rfl, hb⟩; have HB := lH hb; clear hb)
  go_ret
  rw [HT.out]
  exact ⟨rfl, HB.out⟩
end Go.Proofs.YtaojfiegnebbdaaGreatDoor
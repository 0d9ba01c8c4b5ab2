/- Package digits: Text, Pad, HexText; the reference's Digits, Text, Pad, HexText: what each answers. -/
import Derived.Test.YtcgjpkkhebpdfaaGreatDoorFig
import Derived.Test.YtcgjpkkhebpdfaaGreatDoorShelf
set_option linter.unusedSimpArgs false
set_option linter.unusedVariables false
namespace Go.Proofs.YtcgjpkkhebpdfaaGreatDoor
open Go.RowKit
theorem figL_low {b n : Nat} (h : n < b) : figL b n = [figD n] := by rw [figL, dif_neg (fun h' => by omega)]
theorem figL_high {b n : Nat} (hb : 2 ≤ b) (h : b ≤ n) : figL b n = figL b (n / b) ++ [figD (n % b)] := by rw [figL, dif_pos ⟨hb, h⟩]
theorem figL_len {b : Nat} (hb : 2 ≤ b) : ∀ (k n : Nat), 1 ≤ k → n < 2 ^ k → (figL b n).length ≤ k
  | 0, _, h, _ => by omega
  | k + 1, n, _, h => by
    rcases Nat.lt_or_ge n b with h1 | h1
    · rw [figL_low h1]; simp
    · rw [figL_high hb h1, List.length_append]
      have h2 : n / b ≤ n / 2 := Nat.div_le_div_left hb (by omega)
      have h4 : 0 < k := by
        rcases Nat.eq_zero_or_pos k with rfl | h5
        · simp at h; omega
        · exact h5
      have := figL_len hb k (n / b) h4 (by rw [Nat.pow_succ] at h; omega)
      simp only [List.length_cons, List.length_nil]
      omega
def strOf : Value → ByteArray
  | .string s => s
  | _ => ⟨#[]⟩
/-- A number's text. -/
def textB (n : Int) : ByteArray := if n < 0 then ⟨#[45]⟩ ++ ⟨(figL 10 n.natAbs).toArray⟩ else ⟨(figL 10 n.natAbs).toArray⟩
theorem textB_size (n : Int) (h : -9223372036854775808 ≤ n) (h' : n ≤ 9223372036854775807) : (textB n).size ≤ 65 := by
  have := figL_len (b := 10) (by decide) 64 n.natAbs (by decide) (by omega)
  unfold textB
  split
  · rw [ByteArray.size_append]
    show 1 + (figL 10 n.natAbs).toArray.size ≤ 65
    simp; omega
  · show (figL 10 n.natAbs).toArray.size ≤ 65
    simp; omega
theorem figB_size {b : Nat} (hb : 2 ≤ b) (n : Nat) (h : n < 2 ^ 64) : (⟨(figL b n).toArray⟩ : ByteArray).size ≤ 64 := by
  have := figL_len hb 64 n (by decide) h
  show (figL b n).toArray.size ≤ 64
  simpa using this
theorem cons_bytes (c : UInt8) (acc : List UInt8) : (⟨#[c]⟩ : ByteArray) ++ ⟨acc.toArray⟩ = ⟨(c :: acc).toArray⟩ := by apply ByteArray.ext; simp
theorem sign_cut (k : Nat) (h : k < 16) : signS.extract k (k + 1) = ⟨#[figD k]⟩ := by
  have h3 : ∀ k, k < 16 → (signS.extract k (k + 1)) = ⟨#[figD k]⟩ := by decide
  exact h3 k h
set_option maxRecDepth 100000 in
theorem text_any (n : Int) (h : -9223372036854775808 ≤ n) (h' : n ≤ 9223372036854775807) (w : World) : Calls Tryz.prog 93 #[.int .i64 n] w fun e w' => e = .returned (.string (textB n)) ∧ Below w.heap.size w w' := by
  have hz := figB_size (b := 10) (by decide) n.natAbs (by omega)
  obtain ⟨F, hF⟩ : ∃ F : ByteArray, F = ⟨(figL 10 n.natAbs).toArray⟩ := ⟨_, rfl⟩
  have HC : Hid (∀ W : World, Calls Tryz.prog 110 #[.int .i64 n, .int .i64 10] W fun e w' => e = .returned (.string F) ∧ Below W.heap.size W w') := by
    show ∀ W : World, Calls Tryz.prog 110 #[.int .i64 n, .int .i64 10] W fun e w' => e = .returned (.string F) ∧ Below W.heap.size W w'
    rw [hF]; exact figures_10 n h h'
  rw [← hF] at hz
  by_cases hn : n < 0
  · have HT : Hid (textB n = ⟨#[45]⟩ ++ F) := by show textB n = _; unfold textB; rw [if_pos hn, hF]
    have hadd := fun (W : World) => run_string_add_sum (P := Tryz.prog) (w := W) ⟨#[45]⟩ F (by show 1 + F.size ≤ _; omega)
    clear hF hz h h'
    go_enter Tryz.func93, Tryz.ntmps93
    go_wp2_with (go_at_call 110; refine (HC.out _).mono ?_; rintro e' w' ⟨rfl, hb⟩; have HB := Lib.hid hb; clear hb)
    go_ret
    rw [HT.out]
    exact ⟨rfl, HB.out⟩
  · have HT : Hid (textB n = F) := by show textB n = _; unfold textB; rw [if_neg hn, hF]
    have hn' : 0 ≤ n := by omega
    clear hF hz h h'
    go_enter Tryz.func93, Tryz.ntmps93
    go_wp2_with (go_at_call 110; refine (HC.out _).mono ?_; rintro e' w' ⟨rfl, hb⟩; have HB := Lib.hid hb; clear hb)
    go_ret
    rw [HT.out]
    exact ⟨rfl, HB.out⟩
set_option maxRecDepth 100000 in
set_option maxHeartbeats 2000000 in
theorem rdigits_10 (n : Nat) (h : n < 18446744073709551616) (w : World) : Calls Tryz.prog 114 #[.int .u64 n, .int .u64 10] w fun e w' => e = .returned (.string ⟨(figL 10 n).toArray⟩) ∧ ∃ m, w.drewN m = w' := by
  go_enter Tryz.func114, Tryz.ntmps114
  go_wp2_with fail
  go_loopw [0, 6] (fun v a wr => ∃ (k : Nat) (acc : List UInt8), v = .int .u64 k ∧ a = .string ⟨acc.toArray⟩ ∧ k < 18446744073709551616 ∧ figL 10 k ++ acc = figL 10 n ∧ k * 2 ^ acc.length < 2 ^ 64 ∧ (acc = [] ∨ 1 ≤ k) ∧ ∃ m, w.drewN m = wr) (fun v _ _ => (intOf v).toNat)
  case atStart => exact ⟨n, [], rfl, rfl, h, List.append_nil _, by simpa using h, .inl rfl, 0, rfl⟩
  case round =>
    obtain ⟨k, acc, rfl, rfl, hk, hf, hp, ha, hw⟩ := hrel
    have hlen : acc.length ≤ 64 := by
      rcases ha with rfl | ha
      · simp
      · have h4 : 2 ^ acc.length < 2 ^ 64 := Nat.lt_of_le_of_lt (Nat.le_mul_of_pos_left _ (by omega)) hp
        have h5 := (Nat.pow_lt_pow_iff_right (by decide : 1 < 2)).1 h4
        omega
    have hu : ∀ i : Nat, i < 16 → ∀ W : World, (Instr.slice 9 (.string ⟨#[48, 49, 50, 51, 52, 53, 54, 55, 56, 57, 97, 98, 99, 100, 101, 102]⟩) (some (.int .u64 (i : Int))) (some (.int .u64 ((i : Int) + 1))) none).run Tryz.prog W = .ok (.string ⟨#[figD i]⟩) W := fun i hi W => by
      have h1 := run_slice_string (P := Tryz.prog) (w := W) 9 signS .u64 .u64 (i : Int) ((i : Int) + 1) Tryz.underlying9 (by omega) (by omega) (by show _ ≤ (16 : Int); omega)
      rw [show ((i : Int)).toNat = i from rfl, show ((i : Int) + 1).toNat = i + 1 from rfl, sign_cut i hi] at h1
      exact h1
    by_cases hlt : k < 10
    · have hs := hu k (by omega)
      obtain ⟨D, hD⟩ : ∃ D : ByteArray, D = ⟨#[figD k]⟩ := ⟨_, rfl⟩
      obtain ⟨A, hA⟩ : ∃ A : ByteArray, A = ⟨acc.toArray⟩ := ⟨_, rfl⟩
      have hDs : D.size = 1 := by rw [hD]; rfl
      have hAs : A.size ≤ 64 := by rw [hA]; show acc.toArray.size ≤ 64; simpa using hlen
      have hadd := fun (W : World) => run_string_add_sum (P := Tryz.prog) (w := W) D A (by omega)
      have HR : Hid (D ++ A = ⟨(figL 10 n).toArray⟩) := by show D ++ A = _; rw [hD, hA, cons_bytes, ← hf, figL_low hlt]; rfl
      have HW := Lib.hid hw
      rw [← hD] at hs
      rw [← hA]
      have hc : decide ((k : Int) < 10) = true := decide_eq_true (by omega)
      have hc' : (k : Int) < 10 := by omega
      clear hu hD hA hDs hAs hf hp ha hw hlen hlt h hk
      go_wp2_with fail
      go_ret
      rw [HR.out]
      exact ⟨rfl, HW.out⟩
    · have hs := hu (k % 10) (by omega)
      obtain ⟨d, hd⟩ : ∃ d, d = k % 10 := ⟨_, rfl⟩
      obtain ⟨q, hq⟩ : ∃ q, q = k / 10 := ⟨_, rfl⟩
      rw [← hd] at hs
      have hs : ∀ W : World, (Instr.slice 9 (.string ⟨#[48, 49, 50, 51, 52, 53, 54, 55, 56, 57, 97, 98, 99, 100, 101, 102]⟩) (some (.int .u64 ((k : Int).tmod 10))) (some (.int .u64 (IntKind.u64.wrap ((k : Int).tmod 10 + 1)))) none).run Tryz.prog W = .ok (.string ⟨#[figD d]⟩) W := by
        have e1 : (k : Int).tmod 10 = (d : Int) := by rw [hd]; rfl
        rw [e1, IntWalk.u64_in ((d : Int) + 1) ⟨by omega, by omega⟩]
        exact hs
      have hdv : Value.int .u64 ((k : Int).tmod 10) = .int .u64 (d : Int) := by rw [hd]; rfl
      have hqv : Value.int .u64 ((k : Int).tdiv 10) = .int .u64 (q : Int) := by rw [hq]; rfl
      have hd16 : (d : Int) < 16 := by omega
      obtain ⟨D, hD⟩ : ∃ D : ByteArray, D = ⟨#[figD d]⟩ := ⟨_, rfl⟩
      obtain ⟨A, hA⟩ : ∃ A : ByteArray, A = ⟨acc.toArray⟩ := ⟨_, rfl⟩
      have hDs : D.size = 1 := by rw [hD]; rfl
      have hAs : A.size ≤ 64 := by rw [hA]; show acc.toArray.size ≤ 64; simpa using hlen
      have hadd := fun (W : World) => run_string_add_sum (P := Tryz.prog) (w := W) D A (by omega)
      have HR : Hid (D ++ A = ⟨(figD d :: acc).toArray⟩) := by show D ++ A = _; rw [hD, hA, cons_bytes]
      have HN : Hid (q < 18446744073709551616 ∧ figL 10 q ++ (figD d :: acc) = figL 10 n ∧ q * 2 ^ (figD d :: acc).length < 2 ^ 64 ∧ 1 ≤ q ∧ q < k) := by
        show _ ∧ _
        refine ⟨by omega, ?_, ?_, by omega, by omega⟩
        · rw [← hf, figL_high (b := 10) (n := k) (by decide) (by omega), List.append_assoc, hq, hd]; rfl
        · rw [List.length_cons, Nat.pow_succ, Nat.mul_comm (2 ^ acc.length) 2, ← Nat.mul_assoc]
          exact Nat.lt_of_le_of_lt (Nat.mul_le_mul_right _ (by omega)) hp
      have HW := Lib.hid hw
      rw [← hD] at hs
      rw [← hA]
      have hc' : (10 : Int) ≤ k := by omega
      have hk' : (k : Int) < 18446744073709551616 := by omega
      clear hu hD hA hDs hAs hf hp ha hw hlen hlt h hk hd hq
      go_wp2_with fail
      go_quiet (fail)
      go_wp2_with fail
      go_roundw
      case rel =>
        obtain ⟨m1, hm1⟩ := HW.out
        exact ⟨_, _, rfl, by rw [HR.out], HN.out.1, HN.out.2.1, HN.out.2.2.1, .inr HN.out.2.2.2.1, m1 + nq, by rw [← hm1, World.drewN_drewN]⟩
      case measure => have := HN.out.2.2.2.2; simp [intOf]; omega
set_option maxRecDepth 100000 in
set_option maxHeartbeats 2000000 in
theorem rdigits_16 (n : Nat) (h : n < 18446744073709551616) (w : World) : Calls Tryz.prog 114 #[.int .u64 n, .int .u64 16] w fun e w' => e = .returned (.string ⟨(figL 16 n).toArray⟩) ∧ ∃ m, w.drewN m = w' := by
  go_enter Tryz.func114, Tryz.ntmps114
  go_wp2_with fail
  go_loopw [0, 6] (fun v a wr => ∃ (k : Nat) (acc : List UInt8), v = .int .u64 k ∧ a = .string ⟨acc.toArray⟩ ∧ k < 18446744073709551616 ∧ figL 16 k ++ acc = figL 16 n ∧ k * 2 ^ acc.length < 2 ^ 64 ∧ (acc = [] ∨ 1 ≤ k) ∧ ∃ m, w.drewN m = wr) (fun v _ _ => (intOf v).toNat)
  case atStart => exact ⟨n, [], rfl, rfl, h, List.append_nil _, by simpa using h, .inl rfl, 0, rfl⟩
  case round =>
    obtain ⟨k, acc, rfl, rfl, hk, hf, hp, ha, hw⟩ := hrel
    have hlen : acc.length ≤ 64 := by
      rcases ha with rfl | ha
      · simp
      · have h4 : 2 ^ acc.length < 2 ^ 64 := Nat.lt_of_le_of_lt (Nat.le_mul_of_pos_left _ (by omega)) hp
        have h5 := (Nat.pow_lt_pow_iff_right (by decide : 1 < 2)).1 h4
        omega
    have hu : ∀ i : Nat, i < 16 → ∀ W : World, (Instr.slice 9 (.string ⟨#[48, 49, 50, 51, 52, 53, 54, 55, 56, 57, 97, 98, 99, 100, 101, 102]⟩) (some (.int .u64 (i : Int))) (some (.int .u64 ((i : Int) + 1))) none).run Tryz.prog W = .ok (.string ⟨#[figD i]⟩) W := fun i hi W => by
      have h1 := run_slice_string (P := Tryz.prog) (w := W) 9 signS .u64 .u64 (i : Int) ((i : Int) + 1) Tryz.underlying9 (by omega) (by omega) (by show _ ≤ (16 : Int); omega)
      rw [show ((i : Int)).toNat = i from rfl, show ((i : Int) + 1).toNat = i + 1 from rfl, sign_cut i hi] at h1
      exact h1
    by_cases hlt : k < 16
    · have hs := hu k (by omega)
      obtain ⟨D, hD⟩ : ∃ D : ByteArray, D = ⟨#[figD k]⟩ := ⟨_, rfl⟩
      obtain ⟨A, hA⟩ : ∃ A : ByteArray, A = ⟨acc.toArray⟩ := ⟨_, rfl⟩
      have hDs : D.size = 1 := by rw [hD]; rfl
      have hAs : A.size ≤ 64 := by rw [hA]; show acc.toArray.size ≤ 64; simpa using hlen
      have hadd := fun (W : World) => run_string_add_sum (P := Tryz.prog) (w := W) D A (by omega)
      have HR : Hid (D ++ A = ⟨(figL 16 n).toArray⟩) := by show D ++ A = _; rw [hD, hA, cons_bytes, ← hf, figL_low hlt]; rfl
      have HW := Lib.hid hw
      rw [← hD] at hs
      rw [← hA]
      have hc : decide ((k : Int) < 16) = true := decide_eq_true (by omega)
      have hc' : (k : Int) < 16 := by omega
      clear hu hD hA hDs hAs hf hp ha hw hlen hlt h hk
      go_wp2_with fail
      go_ret
      rw [HR.out]
      exact ⟨rfl, HW.out⟩
    · have hs := hu (k % 16) (by omega)
      obtain ⟨d, hd⟩ : ∃ d, d = k % 16 := ⟨_, rfl⟩
      obtain ⟨q, hq⟩ : ∃ q, q = k / 16 := ⟨_, rfl⟩
      rw [← hd] at hs
      have hs : ∀ W : World, (Instr.slice 9 (.string ⟨#[48, 49, 50, 51, 52, 53, 54, 55, 56, 57, 97, 98, 99, 100, 101, 102]⟩) (some (.int .u64 ((k : Int).tmod 16))) (some (.int .u64 (IntKind.u64.wrap ((k : Int).tmod 16 + 1)))) none).run Tryz.prog W = .ok (.string ⟨#[figD d]⟩) W := by
        have e1 : (k : Int).tmod 16 = (d : Int) := by rw [hd]; rfl
        rw [e1, IntWalk.u64_in ((d : Int) + 1) ⟨by omega, by omega⟩]
        exact hs
      have hdv : Value.int .u64 ((k : Int).tmod 16) = .int .u64 (d : Int) := by rw [hd]; rfl
      have hqv : Value.int .u64 ((k : Int).tdiv 16) = .int .u64 (q : Int) := by rw [hq]; rfl
      have hd16 : (d : Int) < 16 := by omega
      obtain ⟨D, hD⟩ : ∃ D : ByteArray, D = ⟨#[figD d]⟩ := ⟨_, rfl⟩
      obtain ⟨A, hA⟩ : ∃ A : ByteArray, A = ⟨acc.toArray⟩ := ⟨_, rfl⟩
      have hDs : D.size = 1 := by rw [hD]; rfl
      have hAs : A.size ≤ 64 := by rw [hA]; show acc.toArray.size ≤ 64; simpa using hlen
      have hadd := fun (W : World) => run_string_add_sum (P := Tryz.prog) (w := W) D A (by omega)
      have HR : Hid (D ++ A = ⟨(figD d :: acc).toArray⟩) := by show D ++ A = _; rw [hD, hA, cons_bytes]
      have HN : Hid (q < 18446744073709551616 ∧ figL 16 q ++ (figD d :: acc) = figL 16 n ∧ q * 2 ^ (figD d :: acc).length < 2 ^ 64 ∧ 1 ≤ q ∧ q < k) := by
        show _ ∧ _
        refine ⟨by omega, ?_, ?_, by omega, by omega⟩
        · rw [← hf, figL_high (b := 16) (n := k) (by decide) (by omega), List.append_assoc, hq, hd]; rfl
        · rw [List.length_cons, Nat.pow_succ, Nat.mul_comm (2 ^ acc.length) 2, ← Nat.mul_assoc]
          exact Nat.lt_of_le_of_lt (Nat.mul_le_mul_right _ (by omega)) hp
      have HW := Lib.hid hw
      rw [← hD] at hs
      rw [← hA]
      have hc' : (16 : Int) ≤ k := by omega
      have hk' : (k : Int) < 18446744073709551616 := by omega
      clear hu hD hA hDs hAs hf hp ha hw hlen hlt h hk hd hq
      go_wp2_with fail
      go_quiet (fail)
      go_wp2_with fail
      go_roundw
      case rel =>
        obtain ⟨m1, hm1⟩ := HW.out
        exact ⟨_, _, rfl, by rw [HR.out], HN.out.1, HN.out.2.1, HN.out.2.2.1, .inr HN.out.2.2.2.1, m1 + nq, by rw [← hm1, World.drewN_drewN]⟩
      case measure => have := HN.out.2.2.2.2; simp [intOf]; omega
set_option maxRecDepth 100000 in
set_option maxHeartbeats 1000000 in
theorem rtext_any (n : Int) (h : -9223372036854775808 ≤ n) (h' : n ≤ 9223372036854775807) (w : World) : Calls Tryz.prog 95 #[.int .i64 n] w fun e w' => e = .returned (.string (textB n)) ∧ ∃ m, w.drewN m = w' := by
  have hz := figB_size (b := 10) (by decide) n.natAbs (by omega)
  obtain ⟨F, hF⟩ : ∃ F : ByteArray, F = ⟨(figL 10 n.natAbs).toArray⟩ := ⟨_, rfl⟩
  obtain ⟨a, ha⟩ : ∃ a : Int, a = n.natAbs := ⟨_, rfl⟩
  have HC : Hid (∀ (r : Int) (W : World), r = a → Calls Tryz.prog 114 #[.int .u64 r, .int .u64 10] W fun e w' => e = .returned (.string F) ∧ ∃ m, W.drewN m = w') := by
    show ∀ (r : Int) (W : World), r = a → Calls Tryz.prog 114 #[.int .u64 r, .int .u64 10] W fun e w' => e = .returned (.string F) ∧ ∃ m, W.drewN m = w'
    rintro r W rfl
    rw [hF, ha]; exact rdigits_10 n.natAbs (by omega) W
  rw [← hF] at hz
  by_cases hn : n < 0
  · have HT : Hid (textB n = ⟨#[45]⟩ ++ F) := by show textB n = _; unfold textB; rw [if_pos hn, hF]
    have hadd := fun (W : World) => run_string_add_sum (P := Tryz.prog) (w := W) ⟨#[45]⟩ F (by show 1 + F.size ≤ _; omega)
    have he : Hid (IntKind.u64.wrap (IntKind.u64.wrap (-(n + 1)) + 1) = a) := by
      show _ = a
      rw [IntWalk.u64_in (-(n + 1)) ⟨by omega, by omega⟩, IntWalk.u64_in (-(n + 1) + 1) ⟨by omega, by omega⟩]
      omega
    have he2 : Hid (-(n + 1) + 1 = a) := by show _ = a; omega
    clear hF hz ha
    go_enter Tryz.func95, Tryz.ntmps95
    go_wp2_with (go_at_call 114; refine (HC.out _ _ ?hr).mono ?_; (case hr => first | exact he2.out | exact he.out | (simp only [IntWalk.u64_in]; exact he2.out)); rintro e' w' ⟨rfl, m, rfl⟩)
    go_ret
    rw [HT.out]
    exact ⟨rfl, _, rfl⟩
  · have HT : Hid (textB n = F) := by show textB n = _; unfold textB; rw [if_neg hn, hF]
    have hn' : 0 ≤ n := by omega
    have he : Hid (IntKind.u64.wrap n = a) := by show _ = a; rw [IntWalk.u64_in n ⟨by omega, by omega⟩]; omega
    have he2 : Hid (n = a) := by show n = a; omega
    clear hF hz ha
    go_enter Tryz.func95, Tryz.ntmps95
    go_wp2_with (go_at_call 114; refine (HC.out _ _ ?hr).mono ?_; (case hr => first | exact he2.out | exact he.out); rintro e' w' ⟨rfl, m, rfl⟩)
    go_ret
    rw [HT.out]
    exact ⟨rfl, _, rfl⟩
def zerosB (n : Nat) : ByteArray := ⟨(List.replicate n 48).toArray⟩
/-- A number's text, filled with zeros ahead. -/
def padB (n wide : Int) : ByteArray := if n < 0 then textB n else zerosB (min wide 20 - (textB n).size).toNat ++ textB n
theorem zerosB_zero (T : ByteArray) : zerosB 0 ++ T = T := by apply ByteArray.ext; simp [zerosB]
theorem zerosB_succ (k : Nat) (T : ByteArray) : (⟨#[48]⟩ : ByteArray) ++ (zerosB k ++ T) = zerosB (k + 1) ++ T := by
  rw [← ByteArray.append_assoc]
  exact congrArg (· ++ T) (cons_bytes 48 (List.replicate k 48))
theorem zerosB_size (k : Nat) : (zerosB k).size = k := by show (List.replicate k (48 : UInt8)).toArray.size = k; simp
theorem repeat_zeros : ∀ k : Nat, Lib.repeatL [48] k = List.replicate k 48
  | 0 => rfl
  | k + 1 => by rw [Lib.repeatL, repeat_zeros k, List.replicate_succ]; rfl
theorem rep_at (r : Int) (k : Nat) (h : r = (k : Int)) (hk : k ≤ 20) (w : World) : Calls Tryz.prog 94 #[.string ⟨#[48]⟩, .int .i64 r] w fun e w' => e = .returned (.string (zerosB k)) ∧ Below w.heap.size w w' := by
  subst h
  have := Tryz.strings_Repeat ⟨#[48]⟩ k w (by omega) (by show 1 * k ≤ _; omega)
  rw [show (⟨#[48]⟩ : ByteArray).data.toList = [48] from rfl, repeat_zeros] at this
  exact this
set_option maxRecDepth 100000 in
set_option maxHeartbeats 2000000 in
theorem pad_any (n wide : Int) (h : -9223372036854775808 ≤ n) (h' : n ≤ 9223372036854775807) (hw0 : 0 ≤ wide) (hw1 : wide ≤ 9223372036854775807) (w : World) :
    Calls Tryz.prog 69 #[.int .i64 n, .int .i64 wide] w fun e w' => e = .returned (.string (padB n wide)) ∧ Below w.heap.size w w' := by
  have hz := textB_size n h h'
  obtain ⟨T, hT⟩ : ∃ T, T = textB n := ⟨_, rfl⟩
  have HC : Hid (∀ W : World, Calls Tryz.prog 93 #[.int .i64 n] W fun e w' => e = .returned (.string T) ∧ Below W.heap.size W w') := by
    show ∀ W : World, Calls Tryz.prog 93 #[.int .i64 n] W fun e w' => e = .returned (.string T) ∧ Below W.heap.size W w'
    rw [hT]; exact text_any n h h'
  rw [← hT] at hz
  by_cases hn : n < 0
  · have HP : Hid (padB n wide = T) := by show padB n wide = T; unfold padB; rw [if_pos hn, hT]
    clear hT
    go_enter Tryz.func69, Tryz.ntmps69
    go_wp2_with (go_at_call 93; refine (HC.out _).mono ?_; rintro e' w' ⟨rfl, hb⟩; have HB := Lib.hid hb; clear hb)
    go_ret
    rw [HP.out]
    exact ⟨rfl, HB.out⟩
  obtain ⟨m, hm⟩ : ∃ m, m = min wide 20 := ⟨_, rfl⟩
  obtain ⟨k, hk⟩ : ∃ k : Nat, k = (m - T.size).toNat := ⟨_, rfl⟩
  have hk20 : k ≤ 20 := by omega
  have HP : Hid (padB n wide = zerosB k ++ T) := by show padB n wide = _; unfold padB; rw [if_neg hn, hk, hm, hT]
  have hadd := fun (W : World) => run_string_add_sum (P := Tryz.prog) (w := W) (zerosB k) T (by rw [zerosB_size]; omega)
  have hn' : 0 ≤ n := by omega
  have hrep : Hid (∀ (r : Int) (W : World), r = max 0 (min wide 20 - (T.size : Int)) → Calls Tryz.prog 94 #[.string ⟨#[48]⟩, .int .i64 r] W fun e w' => e = .returned (.string (zerosB k)) ∧ Below W.heap.size W w') := fun r W e => rep_at r k (by omega) hk20 W
  clear hk hT hk20 hn hm
  go_enter Tryz.func69, Tryz.ntmps69
  go_wp2_with (first
    | (go_at_call 93; refine (HC.out _).mono ?_; rintro e' w' ⟨rfl, hb⟩; have HB := Lib.hid hb; clear hb)
    | (go_at_call 94; refine (hrep.out _ _ ?hr).mono ?_; (case hr => first | rfl | omega); rintro e' w2 ⟨rfl, hb⟩; have HB2 := Lib.hid hb; clear hb))
  go_ret
  rw [HP.out]
  exact ⟨rfl, HB.out.trans (HB2.out.mono HB.out.size)⟩
theorem padB_done {n wide : Int} {k : Nat} (hn : 0 ≤ n) (hk : (k : Int) ≤ max 0 (min wide 20 - (textB n).size)) (h : ¬ ((k : Int) + (textB n).size < wide ∧ (k : Int) + (textB n).size < 20)) : zerosB k ++ textB n = padB n wide := by
  unfold padB
  rw [if_neg (by omega)]
  congr 1
  congr 1
  omega
set_option maxRecDepth 100000 in
set_option maxHeartbeats 2000000 in
theorem rpad_any (n wide : Int) (h : -9223372036854775808 ≤ n) (h' : n ≤ 9223372036854775807) (w : World) :
    Calls Tryz.prog 71 #[.int .i64 n, .int .i64 wide] w fun e w' => e = .returned (.string (padB n wide)) ∧ ∃ m, w.drewN m = w' := by
  have hz := textB_size n h h'
  obtain ⟨T, hT⟩ : ∃ T, T = textB n := ⟨_, rfl⟩
  have HC : Hid (∀ W : World, Calls Tryz.prog 95 #[.int .i64 n] W fun e w' => e = .returned (.string T) ∧ ∃ m, W.drewN m = w') := by
    show ∀ W : World, Calls Tryz.prog 95 #[.int .i64 n] W fun e w' => e = .returned (.string T) ∧ ∃ m, W.drewN m = w'
    rw [hT]; exact rtext_any n h h'
  rw [← hT] at hz
  have HZ := Lib.hid hz
  by_cases hn : n < 0
  · have HP : Hid (padB n wide = T) := by show padB n wide = T; unfold padB; rw [if_pos hn, hT]
    clear hT
    go_enter Tryz.func71, Tryz.ntmps71
    go_wp2_with (go_at_call 95; refine (HC.out _).mono ?_; rintro e' w' ⟨rfl, m, rfl⟩)
    refine wp_loop_rounds 1 ?_
    rw [rounds_succ]
    go_wp2_with fail
    go_ret
    rw [HP.out]
    exact ⟨rfl, _, rfl⟩
  · have hn' : 0 ≤ n := by omega
    have HT := Lib.hid hT
    clear hT hn hz
    go_enter Tryz.func71, Tryz.ntmps71
    go_wp2_with (go_at_call 95; refine (HC.out _).mono ?_; rintro e' w' ⟨rfl, m, rfl⟩)
    go_loop [5] (fun v => ∃ k : Nat, v = .string (zerosB k ++ T) ∧ (k : Int) ≤ max 0 (min wide 20 - T.size)) (fun v => 20 - (strOf v).size)
    case atStart => exact ⟨0, by rw [zerosB_zero], by omega⟩
    case round =>
      obtain ⟨k, rfl, hk⟩ := hrel
      have HK := Lib.hid hk
      have hz := HZ.out
      obtain ⟨S, hS⟩ : ∃ S, S = zerosB k ++ T := ⟨_, rfl⟩
      have hSs : S.size = k + T.size := by rw [hS, ByteArray.size_append, zerosB_size]
      have HS := Lib.hid hS
      rw [← hS]
      by_cases hx : (S.size : Int) < wide ∧ (S.size : Int) < 20
      · have h1 := hx.1
        have h2 := hx.2
        have hadd := fun (W : World) => run_string_add_sum (P := Tryz.prog) (w := W) ⟨#[48]⟩ S (by show 1 + S.size ≤ _; omega)
        have HN : Hid ((⟨#[48]⟩ : ByteArray) ++ S = zerosB (k + 1) ++ T) := by show _ = _; rw [hS, zerosB_succ]
        have HL : Hid (((k + 1 : Nat) : Int) ≤ max 0 (min wide 20 - T.size)) := by show ((k + 1 : Nat) : Int) ≤ max 0 (min wide 20 - T.size); omega
        have HSZ : Hid ((⟨#[48]⟩ ++ S : ByteArray).size = S.size + 1) := by show _ = _; rw [ByteArray.size_append]; show 1 + S.size = _; omega
        clear hS hx hk hSs
        go_wp2_with fail
        go_round
        case rel => exact ⟨k + 1, by rw [HN.out], HL.out⟩
        case measure => simp only [strOf]; rw [HSZ.out]; omega
      · have HD : Hid (S = padB n wide) := by
          show S = padB n wide
          rw [hS, HT.out]
          refine padB_done hn' (by rw [← HT.out]; exact hk) ?_
          rw [← HT.out]
          omega
        by_cases hx1 : (S.size : Int) < wide
        · have hx2 : decide ((S.size : Int) < 20) = false := by rw [decide_eq_false_iff_not]; omega
          clear hS hx hk hSs hz
          go_wp2_with fail
          go_ret
          rw [HD.out]
          exact ⟨rfl, _, rfl⟩
        · have hx2 : decide ((S.size : Int) < wide) = false := by rw [decide_eq_false_iff_not]; omega
          clear hS hx hk hSs hz hx1
          go_wp2_with fail
          go_ret
          rw [HD.out]
          exact ⟨rfl, _, rfl⟩
end Go.Proofs.YtcgjpkkhebpdfaaGreatDoor

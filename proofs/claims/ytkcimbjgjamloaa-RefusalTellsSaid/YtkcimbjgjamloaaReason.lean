/- Layer 15: Reason: what it answers for every status. -/
import Derived.Test.YtkcimbjgjamloaaBase
namespace Go.Proofs.Ytkcimbjgjamloaa
open Go.RowKit
def codes : List Int := [100, 400, 408, 413, 417, 431, 501, 502, 504, 505, 508]
def whys : List ByteArray := [⟨#[67, 111, 110, 116, 105, 110, 117, 101]⟩, ⟨#[66, 97, 100, 32, 82, 101, 113, 117, 101, 115, 116]⟩, ⟨#[82, 101, 113, 117, 101, 115, 116, 32, 84, 105, 109, 101, 111, 117, 116]⟩, ⟨#[67, 111, 110, 116, 101, 110, 116, 32, 84, 111, 111, 32, 76, 97, 114, 103, 101]⟩, ⟨#[69, 120, 112, 101, 99, 116, 97, 116, 105, 111, 110, 32, 70, 97, 105, 108, 101, 100]⟩, ⟨#[82, 101, 113, 117, 101, 115, 116, 32, 72, 101, 97, 100, 101, 114, 32, 70, 105, 101, 108, 100, 115, 32, 84, 111, 111, 32, 76, 97, 114, 103, 101]⟩, ⟨#[78, 111, 116, 32, 73, 109, 112, 108, 101, 109, 101, 110, 116, 101, 100]⟩, ⟨#[66, 97, 100, 32, 71, 97, 116, 101, 119, 97, 121]⟩, ⟨#[71, 97, 116, 101, 119, 97, 121, 32, 84, 105, 109, 101, 111, 117, 116]⟩, ⟨#[72, 84, 84, 80, 32, 86, 101, 114, 115, 105, 111, 110, 32, 78, 111, 116, 32, 83, 117, 112, 112, 111, 114, 116, 101, 100]⟩, ⟨#[76, 111, 111, 112, 32, 68, 101, 116, 101, 99, 116, 101, 100]⟩]
def reasonS (n : Int) : ByteArray :=
  if n = 100 then ⟨#[67, 111, 110, 116, 105, 110, 117, 101]⟩ else
  if n = 400 then ⟨#[66, 97, 100, 32, 82, 101, 113, 117, 101, 115, 116]⟩ else
  if n = 408 then ⟨#[82, 101, 113, 117, 101, 115, 116, 32, 84, 105, 109, 101, 111, 117, 116]⟩ else
  if n = 413 then ⟨#[67, 111, 110, 116, 101, 110, 116, 32, 84, 111, 111, 32, 76, 97, 114, 103, 101]⟩ else
  if n = 417 then ⟨#[69, 120, 112, 101, 99, 116, 97, 116, 105, 111, 110, 32, 70, 97, 105, 108, 101, 100]⟩ else
  if n = 431 then ⟨#[82, 101, 113, 117, 101, 115, 116, 32, 72, 101, 97, 100, 101, 114, 32, 70, 105, 101, 108, 100, 115, 32, 84, 111, 111, 32, 76, 97, 114, 103, 101]⟩ else
  if n = 501 then ⟨#[78, 111, 116, 32, 73, 109, 112, 108, 101, 109, 101, 110, 116, 101, 100]⟩ else
  if n = 502 then ⟨#[66, 97, 100, 32, 71, 97, 116, 101, 119, 97, 121]⟩ else
  if n = 504 then ⟨#[71, 97, 116, 101, 119, 97, 121, 32, 84, 105, 109, 101, 111, 117, 116]⟩ else
  if n = 505 then ⟨#[72, 84, 84, 80, 32, 86, 101, 114, 115, 105, 111, 110, 32, 78, 111, 116, 32, 83, 117, 112, 112, 111, 114, 116, 101, 100]⟩ else
  if n = 508 then ⟨#[76, 111, 111, 112, 32, 68, 101, 116, 101, 99, 116, 101, 100]⟩ else
  ⟨#[]⟩
theorem reason_at : ∀ k : Nat, k < 11 → ∃ c y, codes[k]? = some c ∧ whys[k]? = some y ∧ reasonS c = y
  | 0, _ => ⟨_, _, rfl, rfl, rfl⟩
  | 1, _ => ⟨_, _, rfl, rfl, rfl⟩
  | 2, _ => ⟨_, _, rfl, rfl, rfl⟩
  | 3, _ => ⟨_, _, rfl, rfl, rfl⟩
  | 4, _ => ⟨_, _, rfl, rfl, rfl⟩
  | 5, _ => ⟨_, _, rfl, rfl, rfl⟩
  | 6, _ => ⟨_, _, rfl, rfl, rfl⟩
  | 7, _ => ⟨_, _, rfl, rfl, rfl⟩
  | 8, _ => ⟨_, _, rfl, rfl, rfl⟩
  | 9, _ => ⟨_, _, rfl, rfl, rfl⟩
  | 10, _ => ⟨_, _, rfl, rfl, rfl⟩
  | k + 11, h => by omega
theorem reason_none {n : Int} (h : ∀ k : Nat, k < 11 → ∀ c, codes[k]? = some c → c ≠ n) : reasonS n = ⟨#[]⟩ := by
  unfold reasonS
  rw [if_neg (Ne.symm (h 0 (by omega) 100 rfl)), if_neg (Ne.symm (h 1 (by omega) 400 rfl)), if_neg (Ne.symm (h 2 (by omega) 408 rfl)), if_neg (Ne.symm (h 3 (by omega) 413 rfl)), if_neg (Ne.symm (h 4 (by omega) 417 rfl)), if_neg (Ne.symm (h 5 (by omega) 431 rfl)), if_neg (Ne.symm (h 6 (by omega) 501 rfl)), if_neg (Ne.symm (h 7 (by omega) 502 rfl)), if_neg (Ne.symm (h 8 (by omega) 504 rfl)), if_neg (Ne.symm (h 9 (by omega) 505 rfl)), if_neg (Ne.symm (h 10 (by omega) 508 rfl))]
set_option maxHeartbeats 2000000 in
theorem reason_any (n : Int) (w : World) : Calls Try.prog 30 #[.int .i64 n] w fun e w' => e = .returned (.string (reasonS n)) ∧ w = w' := by
  by_cases h0 : n = 100
  · subst h0
    go_enter Try.func30, Try.ntmps30
    go_wp2_with fail
    go_ret
    exact ⟨rfl, rfl⟩
  have b0 : (n == 100) = false := by simpa using h0
  by_cases h1 : n = 400
  · subst h1
    go_enter Try.func30, Try.ntmps30
    go_wp2_with fail
    go_ret
    exact ⟨rfl, rfl⟩
  have b1 : (n == 400) = false := by simpa using h1
  by_cases h2 : n = 408
  · subst h2
    go_enter Try.func30, Try.ntmps30
    go_wp2_with fail
    go_ret
    exact ⟨rfl, rfl⟩
  have b2 : (n == 408) = false := by simpa using h2
  by_cases h3 : n = 413
  · subst h3
    go_enter Try.func30, Try.ntmps30
    go_wp2_with fail
    go_ret
    exact ⟨rfl, rfl⟩
  have b3 : (n == 413) = false := by simpa using h3
  by_cases h4 : n = 417
  · subst h4
    go_enter Try.func30, Try.ntmps30
    go_wp2_with fail
    go_ret
    exact ⟨rfl, rfl⟩
  have b4 : (n == 417) = false := by simpa using h4
  by_cases h5 : n = 431
  · subst h5
    go_enter Try.func30, Try.ntmps30
    go_wp2_with fail
    go_ret
    exact ⟨rfl, rfl⟩
  have b5 : (n == 431) = false := by simpa using h5
  by_cases h6 : n = 501
  · subst h6
    go_enter Try.func30, Try.ntmps30
    go_wp2_with fail
    go_ret
    exact ⟨rfl, rfl⟩
  have b6 : (n == 501) = false := by simpa using h6
  by_cases h7 : n = 502
  · subst h7
    go_enter Try.func30, Try.ntmps30
    go_wp2_with fail
    go_ret
    exact ⟨rfl, rfl⟩
  have b7 : (n == 502) = false := by simpa using h7
  by_cases h8 : n = 504
  · subst h8
    go_enter Try.func30, Try.ntmps30
    go_wp2_with fail
    go_ret
    exact ⟨rfl, rfl⟩
  have b8 : (n == 504) = false := by simpa using h8
  by_cases h9 : n = 505
  · subst h9
    go_enter Try.func30, Try.ntmps30
    go_wp2_with fail
    go_ret
    exact ⟨rfl, rfl⟩
  have b9 : (n == 505) = false := by simpa using h9
  by_cases h10 : n = 508
  · subst h10
    go_enter Try.func30, Try.ntmps30
    go_wp2_with fail
    go_ret
    exact ⟨rfl, rfl⟩
  have b10 : (n == 508) = false := by simpa using h10
  have HN : Hid (reasonS n = ⟨#[]⟩) := by
    show reasonS n = ⟨#[]⟩
    unfold reasonS
    rw [if_neg h0, if_neg h1, if_neg h2, if_neg h3, if_neg h4, if_neg h5, if_neg h6, if_neg h7, if_neg h8, if_neg h9, if_neg h10]
  clear h0 h1 h2 h3 h4 h5 h6 h7 h8 h9 h10
  go_enter Try.func30, Try.ntmps30
  go_wp2_with fail
  go_ret
  rw [HN.out]
  exact ⟨rfl, rfl⟩
end Go.Proofs.Ytkcimbjgjamloaa

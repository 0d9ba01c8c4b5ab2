/- HexText, chunk.Line, encode.Begin and the reference's: what each answers for every number. -/
import Derived.Test.YtekbmefdaepgcaaText
namespace Go.Proofs.Ytekbmefdaepgcaa
open Go.RowKit
/-- A number's text to the base 16; nothing below 0. -/
def hexB (n : Int) : ByteArray := if n < 0 then ⟨#[]⟩ else ⟨(figL 16 n.natAbs).toArray⟩
def crlf : ByteArray := ⟨#[13, 10]⟩
/-- The line ahead of a chunk. -/
def clineB (n : Int) : ByteArray := if n < 0 then ⟨#[]⟩ else hexB n ++ crlf
def beginB (n : Int) : ByteArray := if n < 1 then ⟨#[]⟩ else clineB n
theorem hexB_size (n : Int) (h' : n ≤ 9223372036854775807) : (hexB n).size ≤ 64 := by
  unfold hexB
  split
  · exact Nat.zero_le _
  · exact figB_size (by decide) _ (by omega)
theorem clineB_size (n : Int) (h' : n ≤ 9223372036854775807) : (clineB n).size ≤ 66 := by
  have := hexB_size n h'
  unfold clineB
  split
  · exact Nat.zero_le _
  · rw [ByteArray.size_append]; show (hexB n).size + 2 ≤ 66; omega
theorem beginB_size (n : Int) (h' : n ≤ 9223372036854775807) : (beginB n).size ≤ 66 := by
  have := clineB_size n h'
  unfold beginB
  split
  · exact Nat.zero_le _
  · exact this
theorem hextext_any (n : Int) (h : -9223372036854775808 ≤ n) (h' : n ≤ 9223372036854775807) (w : World) : Calls Try.prog 100 #[.int .i64 n] w fun e w' => e = .returned (.string (hexB n)) ∧ Below w.heap.size w w' := by
  by_cases hn : n < 0
  · have HT : Hid (hexB n = ⟨#[]⟩) := by show hexB n = _; unfold hexB; rw [if_pos hn]
    go_enter Try.func100, Try.ntmps100
    go_wp2_with fail
    go_ret
    rw [HT.out]
    exact ⟨rfl, Below.refl _ _⟩
  · have HC := Lib.hid (fun W => figures_16 n h h' W)
    have HT : Hid (hexB n = ⟨(figL 16 n.natAbs).toArray⟩) := by show hexB n = _; unfold hexB; rw [if_neg hn]
    have hn' : 0 ≤ n := by omega
    go_enter Try.func100, Try.ntmps100
    go_wp2_with (go_at_call 129; refine (HC.out _).mono ?_; rintro e' w' ⟨rfl, hb⟩; have HB := Lib.hid hb; clear hb)
    go_ret
    rw [HT.out]
    exact ⟨rfl, HB.out⟩
theorem rhextext_any (n : Int) (h' : n ≤ 9223372036854775807) (w : World) : Calls Try.prog 101 #[.int .i64 n] w fun e w' => e = .returned (.string (hexB n)) ∧ Below w.heap.size w w' := by
  by_cases hn : n < 0
  · have HT : Hid (hexB n = ⟨#[]⟩) := by show hexB n = _; unfold hexB; rw [if_pos hn]
    go_enter Try.func101, Try.ntmps101
    go_wp2_with fail
    go_ret
    rw [HT.out]
    exact ⟨rfl, Below.refl _ _⟩
  · have HC : Hid (∀ (r : Int) (W : World), (r = n ∨ r = IntKind.u64.wrap n) → Calls Try.prog 130 #[.int .u64 r, .int .u64 16] W fun e w' => e = .returned (.string ⟨(figL 16 n.natAbs).toArray⟩) ∧ ∃ m, W.drewN m = w') := by
      show ∀ (r : Int) (W : World), (r = n ∨ r = IntKind.u64.wrap n) → _
      intro r W hr
      have e1 : r = n.natAbs := by
        rcases hr with rfl | rfl
        · omega
        · rw [IntWalk.u64_in n ⟨by omega, by omega⟩]; omega
      rw [e1]
      exact rdigits_16 n.natAbs (by omega) W
    have HT : Hid (hexB n = ⟨(figL 16 n.natAbs).toArray⟩) := by show hexB n = _; unfold hexB; rw [if_neg hn]
    have hn' : 0 ≤ n := by omega
    go_enter Try.func101, Try.ntmps101
    go_wp2_with (go_at_call 130; refine (HC.out _ _ ?hr).mono ?_; (case hr => first | exact .inl rfl | exact .inr rfl); rintro e' w' ⟨rfl, m, rfl⟩)
    go_ret
    rw [HT.out]
    exact ⟨rfl, rfl, rfl, rfl, Nat.le_refl _, fun _ _ => rfl⟩
theorem cline_any (n : Int) (h : -9223372036854775808 ≤ n) (h' : n ≤ 9223372036854775807) (w : World) : Calls Try.prog 55 #[.int .i64 n] w fun e w' => e = .returned (.string (clineB n)) ∧ Below w.heap.size w w' := by
  by_cases hn : n < 0
  · have HT : Hid (clineB n = ⟨#[]⟩) := by show clineB n = _; unfold clineB; rw [if_pos hn]
    go_enter Try.func55, Try.ntmps55
    go_wp2_with fail
    go_ret
    rw [HT.out]
    exact ⟨rfl, Below.refl _ _⟩
  · have hz := hexB_size n h'
    obtain ⟨X, hX⟩ : ∃ X, X = hexB n := ⟨_, rfl⟩
    have HC : Hid (∀ W : World, Calls Try.prog 100 #[.int .i64 n] W fun e w' => e = .returned (.string X) ∧ Below W.heap.size W w') := fun W => by rw [hX]; exact hextext_any n h h' W
    have HT : Hid (clineB n = X ++ ⟨#[13, 10]⟩) := by show clineB n = _; unfold clineB; rw [if_neg hn, hX]; rfl
    rw [← hX] at hz
    have hadd := fun (W : World) => run_string_add_sum (P := Try.prog) (w := W) X ⟨#[13, 10]⟩ (by show X.size + 2 ≤ _; omega)
    have hn' : 0 ≤ n := by omega
    clear hX hz
    go_enter Try.func55, Try.ntmps55
    go_wp2_with (go_at_call 100; refine (HC.out _).mono ?_; rintro e' w' ⟨rfl, hb⟩; have HB := Lib.hid hb; clear hb)
    go_ret
    rw [HT.out]
    exact ⟨rfl, HB.out⟩
theorem rcline_any (n : Int) (h : -9223372036854775808 ≤ n) (h' : n ≤ 9223372036854775807) (w : World) : Calls Try.prog 56 #[.int .i64 n] w fun e w' => e = .returned (.string (clineB n)) ∧ Below w.heap.size w w' := by
  by_cases hn : n < 0
  · have HT : Hid (clineB n = ⟨#[]⟩) := by show clineB n = _; unfold clineB; rw [if_pos hn]
    go_enter Try.func56, Try.ntmps56
    go_wp2_with fail
    go_ret
    rw [HT.out]
    exact ⟨rfl, Below.refl _ _⟩
  · have hz := hexB_size n h'
    obtain ⟨X, hX⟩ : ∃ X, X = hexB n := ⟨_, rfl⟩
    have HC : Hid (∀ W : World, Calls Try.prog 101 #[.int .i64 n] W fun e w' => e = .returned (.string X) ∧ Below W.heap.size W w') := fun W => by rw [hX]; exact rhextext_any n h' W
    have HT : Hid (clineB n = X ++ ⟨#[13, 10]⟩) := by show clineB n = _; unfold clineB; rw [if_neg hn, hX]; rfl
    rw [← hX] at hz
    have hadd := fun (W : World) => run_string_add_sum (P := Try.prog) (w := W) X ⟨#[13, 10]⟩ (by show X.size + 2 ≤ _; omega)
    have hn' : 0 ≤ n := by omega
    clear hX hz
    go_enter Try.func56, Try.ntmps56
    go_wp2_with (go_at_call 101; refine (HC.out _).mono ?_; rintro e' w' ⟨rfl, hb⟩; have HB := Lib.hid hb; clear hb)
    go_ret
    rw [HT.out]
    exact ⟨rfl, HB.out⟩
theorem begin_any (n : Int) (h : -9223372036854775808 ≤ n) (h' : n ≤ 9223372036854775807) (w : World) : Calls Try.prog 12 #[.int .i64 n] w fun e w' => e = .returned (.string (beginB n)) ∧ Below w.heap.size w w' := by
  by_cases hn : n < 1
  · have HT : Hid (beginB n = ⟨#[]⟩) := by show beginB n = _; unfold beginB; rw [if_pos hn]
    go_enter Try.func12, Try.ntmps12
    go_wp2_with fail
    go_ret
    rw [HT.out]
    exact ⟨rfl, Below.refl _ _⟩
  · have HC := Lib.hid (fun W => cline_any n h h' W)
    have HT : Hid (beginB n = clineB n) := by show beginB n = _; unfold beginB; rw [if_neg hn]
    have hn' : 1 ≤ n := by omega
    go_enter Try.func12, Try.ntmps12
    go_wp2_with (go_at_call 55; refine (HC.out _).mono ?_; rintro e' w' ⟨rfl, hb⟩; have HB := Lib.hid hb; clear hb)
    go_ret
    rw [HT.out]
    exact ⟨rfl, HB.out⟩
theorem rbegin_any (n : Int) (h : -9223372036854775808 ≤ n) (h' : n ≤ 9223372036854775807) (w : World) : Calls Try.prog 13 #[.int .i64 n] w fun e w' => e = .returned (.string (beginB n)) ∧ Below w.heap.size w w' := by
  by_cases hn : n < 1
  · have HT : Hid (beginB n = ⟨#[]⟩) := by show beginB n = _; unfold beginB; rw [if_pos hn]
    go_enter Try.func13, Try.ntmps13
    go_wp2_with fail
    go_ret
    rw [HT.out]
    exact ⟨rfl, Below.refl _ _⟩
  · have HC := Lib.hid (fun W => rcline_any n h h' W)
    have HT : Hid (beginB n = clineB n) := by show beginB n = _; unfold beginB; rw [if_neg hn]
    have hn' : 1 ≤ n := by omega
    go_enter Try.func13, Try.ntmps13
    go_wp2_with (go_at_call 56; refine (HC.out _).mono ?_; rintro e' w' ⟨rfl, hb⟩; have HB := Lib.hid hb; clear hb)
    go_ret
    rw [HT.out]
    exact ⟨rfl, HB.out⟩
end Go.Proofs.Ytekbmefdaepgcaa

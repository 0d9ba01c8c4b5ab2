/- Layer 15: digit, formed, Minor, Version, and the reference's: what each answers, for every text. -/
import Derived.Test.YtekbmefdaepgcaaOctet
import Derived.Test.YtekbmefdaepgcaaShelf
import Derived.Deep.QuietTactic
import Derived.BigQuiet
namespace Go.Proofs.Ytekbmefdaepgcaa
open Go.RowKit
def isDg (r : Int) : Bool := decide (48 ≤ r ∧ r ≤ 57)
def bt (s : ByteArray) (i : Nat) : Int := if h : i < s.size then ((s[i]'h).toNat : Int) else 0
def headS : ByteArray := ⟨#[72, 84, 84, 80, 47]⟩
/-- Has a text the form of a version? -/
def vform (s : ByteArray) : Bool := decide (s.size = 8) && (Lib.hasPrefix s.data.toList [72, 84, 84, 80, 47] && (isDg (bt s 5) && (decide (bt s 6 = 46) && isDg (bt s 7))))
/-- A version's minor, or the error. -/
def vminor (s : ByteArray) : Int × Int := if vform s = false then (0, 3) else if bt s 5 = 49 then (if bt s 7 = 48 then (0, 0) else (1, 0)) else (0, 9)
theorem bt_range (s : ByteArray) (i : Nat) : 0 ≤ bt s i ∧ bt s i ≤ 255 := by
  unfold bt
  split
  · rename_i h
    have := (s[i]'h).toNat_lt
    omega
  · omega
theorem index_bt (s : ByteArray) (i : Nat) (h : i < s.size) (W : World) : (Instr.index 9 (.string s) (.int .i64 (i : Int))).run Try.prog W = .ok (.int .u8 (bt s i)) W := by
  have h1 := run_index_string (P := Try.prog) (w := W) 9 s .i64 (i : Int) Try.underlying9
  have h2 : 0 ≤ (i : Int) ∧ (i : Int) < s.size := by omega
  rw [dif_pos h2] at h1
  rw [h1]
  unfold bt
  rw [dif_pos h]
  rfl
theorem isDg_false {r : Int} (h : r < 48 ∨ 57 < r) : isDg r = false := by unfold isDg; rw [decide_eq_false_iff_not]; omega
theorem isDg_true {r : Int} (h : 48 ≤ r) (h' : r ≤ 57) : isDg r = true := by unfold isDg; rw [decide_eq_true_eq]; exact ⟨h, h'⟩
theorem formed_no (s : ByteArray) (h : s.size ≠ 8) : vform s = false := by unfold vform; rw [decide_eq_false h]; rfl
theorem formed_of (s : ByteArray) (h : s.size = 8) {p d e f : Bool} (hp : Lib.hasPrefix s.data.toList [72, 84, 84, 80, 47] = p) (hd : isDg (bt s 5) = d) (he : decide (bt s 6 = 46) = e) (hf : isDg (bt s 7) = f) : vform s = (p && (d && (e && f))) := by
  unfold vform; rw [decide_eq_true h, hp, hd, he, hf]; rfl
theorem prefix_at (s : ByteArray) {p : Bool} (hp : Lib.hasPrefix s.data.toList [72, 84, 84, 80, 47] = p) (w : World) : Calls Try.prog 155 #[.string s, .string ⟨#[72, 84, 84, 80, 47]⟩] w fun e w' => e = .returned (.bool p) ∧ w = w' := by
  subst hp
  exact (Try.strings_HasPrefix s ⟨#[72, 84, 84, 80, 47]⟩ w).mono fun _ _ ⟨a, b⟩ => ⟨a, b.symm⟩
end Go.Proofs.Ytekbmefdaepgcaa

/- Package digits: Dec and Hex: what each answers for every text and every greatest number. -/
import Derived.Test.YtekbmefdaepgcaaOctet
namespace Go.Proofs.Ytekbmefdaepgcaa
open Go.RowKit
def digV (r : Int) : Int := if 48 ≤ r ∧ r ≤ 57 then r - 48 else if 97 ≤ r ∧ r ≤ 102 then r - 87 else if 65 ≤ r ∧ r ≤ 70 then r - 55 else -1
theorem digV_range (r : Int) : -1 ≤ digV r ∧ digV r ≤ 15 := by
  unfold digV
  repeat' split
  all_goals omega
theorem digV_high {r : Int} (h : 128 ≤ r) : digV r = -1 := by
  unfold digV
  rw [if_neg (by omega), if_neg (by omega), if_neg (by omega)]
def numV (base : Int) (l : List UInt8) : Int := l.foldl (fun n b => n * base + digV b.toNat) 0
def digB (base : Int) (b : UInt8) : Bool := decide (0 ≤ digV b.toNat ∧ digV b.toNat < base)
/-- What a text of digits comes to: the number, and the error's number. -/
def numRes (l : List UInt8) (base most : Int) : Int × Int :=
  if l.isEmpty then (0, 2) else if !(l.all (digB base)) then (0, 3) else if numV base l ≤ most then (numV base l, 0) else (0, 5)
theorem numV_snoc (base : Int) (l : List UInt8) (b : UInt8) : numV base (l ++ [b]) = numV base l * base + digV b.toNat := by
  unfold numV
  rw [List.foldl_append]
  rfl
theorem take_snoc (s : ByteArray) (k : Nat) (h : k < s.size) : s.data.toList.take (k + 1) = s.data.toList.take k ++ [s[k]] := by
  rw [List.take_succ_eq_append_getElem (by simpa using h)]; rfl
theorem rune_facts (s : ByteArray) (k : Nat) (h : k < s.size) : ∃ (r : Int) (wd : Nat), r = ((Utf8.decode s k).1 : Int) ∧ wd = (Utf8.decode s k).2 ∧ 0 ≤ r ∧ r ≤ 1114111 ∧ 1 ≤ wd ∧ (digV r = digV (s[k]'h).toNat) ∧ (0 ≤ digV r → wd = 1) := by
  have hm : (Utf8.decode s k).1 ≤ 1114111 := by
    have hb : ∀ j, (s.get! (k + j)).toNat < 256 := fun j => (s.get! (k + j)).toNat_lt
    have h0 := hb 0; have h1 := hb 1; have h2 := hb 2; have h3 := hb 3
    simp only [Utf8.decode]
    repeat' split
    all_goals simp_all [Utf8.runeError, Utf8.valid]
    all_goals omega
  refine ⟨_, _, rfl, rfl, by omega, by omega, ?_⟩
  by_cases ha : (s[k]'h).toNat < 128
  · rw [decode_ascii s k h ha]
    exact ⟨Nat.le_refl _, rfl, fun _ => rfl⟩
  · have hh := decode_high s k h (by omega)
    refine ⟨hh.2, ?_, fun h' => ?_⟩
    · rw [digV_high (by omega), digV_high (by omega)]
    · rw [digV_high (by omega)] at h'; omega
theorem numF_nn {base : Int} (hb : 0 ≤ base) : ∀ (l : List UInt8) (n0 : Int), 0 ≤ n0 → l.all (digB base) = true → 0 ≤ l.foldl (fun n b => n * base + digV b.toNat) n0
  | [], n0, h, _ => h
  | b :: l, n0, h, ha => by
    rw [List.all_cons, Bool.and_eq_true] at ha
    have h2 := ha.1
    simp only [digB, decide_eq_true_eq] at h2
    have h3 := Int.mul_nonneg h hb
    exact numF_nn hb l (n0 * base + digV b.toNat) (by omega) ha.2
theorem numV_nn {base : Int} (hb : 0 ≤ base) (l : List UInt8) (h : l.all (digB base) = true) : 0 ≤ numV base l := numF_nn hb l 0 (Int.le_refl _) h
/-- What the loop holds: no digit is wrong, and the number so far, or that it is beyond the greatest. -/
def NumI10 (s : ByteArray) (most : Int) (k : Nat) (n : Int) (over : Bool) : Prop :=
  (s.data.toList.take k).all (digB 10) = true ∧ 0 ≤ n ∧ (over = false → n = numV 10 (s.data.toList.take k) ∧ (k = 0 ∨ n ≤ most)) ∧ (over = true → most < numV 10 (s.data.toList.take k))
theorem NumI10.next {s : ByteArray} {most : Int} {k : Nat} {n : Int} {over : Bool} (h : NumI10 s most k n over) (hk : k < s.size) {d : Int} (hd : d = digV (s[k]'hk).toNat) (h0 : 0 ≤ d) (h1 : d < 10) {n' : Int} {over' : Bool}
    (ho : over' = false → over = false ∧ n' = n * 10 + d ∧ n' ≤ most) (ho' : over' = true → over = true ∨ most < d ∨ (most - d) / 10 < n) (hn : 0 ≤ n') : NumI10 s most (k + 1) n' over' := by
  obtain ⟨a, b, c, e⟩ := h
  have hv := numV_nn (base := 10) (by omega) _ a
  unfold NumI10
  rw [take_snoc s k hk, List.all_append, a, numV_snoc, ← hd]
  refine ⟨?_, hn, fun hf => ?_, fun ht => ?_⟩
  · simp only [List.all_cons, List.all_nil, Bool.and_true, Bool.true_and, digB, decide_eq_true_eq, ← hd]
    exact ⟨h0, h1⟩
  · obtain ⟨p, q, r⟩ := ho hf
    have := (c p).1
    exact ⟨by rw [q, this], .inr r⟩
  · cases over
    · have := (c rfl).1
      rcases ho' ht with h | h | h
      · cases h
      · omega
      · omega
    · have := e rfl
      omega
/-- What the loop holds: no digit is wrong, and the number so far, or that it is beyond the greatest. -/
def NumI16 (s : ByteArray) (most : Int) (k : Nat) (n : Int) (over : Bool) : Prop :=
  (s.data.toList.take k).all (digB 16) = true ∧ 0 ≤ n ∧ (over = false → n = numV 16 (s.data.toList.take k) ∧ (k = 0 ∨ n ≤ most)) ∧ (over = true → most < numV 16 (s.data.toList.take k))
theorem NumI16.next {s : ByteArray} {most : Int} {k : Nat} {n : Int} {over : Bool} (h : NumI16 s most k n over) (hk : k < s.size) {d : Int} (hd : d = digV (s[k]'hk).toNat) (h0 : 0 ≤ d) (h1 : d < 16) {n' : Int} {over' : Bool}
    (ho : over' = false → over = false ∧ n' = n * 16 + d ∧ n' ≤ most) (ho' : over' = true → over = true ∨ most < d ∨ (most - d) / 16 < n) (hn : 0 ≤ n') : NumI16 s most (k + 1) n' over' := by
  obtain ⟨a, b, c, e⟩ := h
  have hv := numV_nn (base := 16) (by omega) _ a
  unfold NumI16
  rw [take_snoc s k hk, List.all_append, a, numV_snoc, ← hd]
  refine ⟨?_, hn, fun hf => ?_, fun ht => ?_⟩
  · simp only [List.all_cons, List.all_nil, Bool.and_true, Bool.true_and, digB, decide_eq_true_eq, ← hd]
    exact ⟨h0, h1⟩
  · obtain ⟨p, q, r⟩ := ho hf
    have := (c p).1
    exact ⟨by rw [q, this], .inr r⟩
  · cases over
    · have := (c rfl).1
      rcases ho' ht with h | h | h
      · cases h
      · omega
      · omega
    · have := e rfl
      omega
end Go.Proofs.Ytekbmefdaepgcaa

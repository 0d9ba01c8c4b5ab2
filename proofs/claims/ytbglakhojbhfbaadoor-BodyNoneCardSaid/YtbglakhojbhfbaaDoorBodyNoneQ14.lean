/- Texts packed for one claim, 14 of 37: Fig. -/
import Derived.Test.YtbglakhojbhfbaaDoorBodyNoneQ2
import Derived.Laws.BytesArg
set_option linter.unusedSimpArgs false
set_option linter.unusedVariables false
-- Fig
namespace Go.Proofs.YtbglakhojbhfbaaDoor
open Go.RowKit
def figD (d : Nat) : UInt8 := if d < 10 then UInt8.ofNat (48 + d) else UInt8.ofNat (87 + d)
/-- The figures of a number, to a base. -/
def figL (b n : Nat) : List UInt8 := if h : 2 ≤ b ∧ b ≤ n then figL b (n / b) ++ [figD (n % b)] else [figD n]
termination_by n
decreasing_by exact Nat.div_lt_self (by omega) (by omega)
def figT (b n : Nat) : List UInt8 := if n = 0 then [] else figL b n
theorem figL_step {b : Nat} (hb : 2 ≤ b) (n : Nat) : figL b n = figT b (n / b) ++ [figD (n % b)] := by
  rw [figL]
  by_cases h : b ≤ n
  · rw [dif_pos ⟨hb, h⟩]
    unfold figT
    rw [if_neg (by have := Nat.div_pos h (by omega : 0 < b); omega)]
  · rw [dif_neg (fun h' => h h'.2)]
    unfold figT
    rw [Nat.div_eq_of_lt (by omega), if_pos rfl, Nat.mod_eq_of_lt (by omega)]
    rfl
theorem figL_ne {b : Nat} (hb : 2 ≤ b) (n : Nat) : figL b n ≠ [] := by rw [figL_step hb]; simp
theorem figT_pos (b : Nat) {n : Nat} (h : n ≠ 0) : figT b n = figL b n := by unfold figT; rw [if_neg h]
def bysL (l : List UInt8) : Array Value := (l.map fun b => Value.int .u8 b.toNat).toArray
theorem bysL_get (l : List UInt8) (i : Nat) : (bysL l)[i]? = l[i]?.map fun b => Value.int .u8 b.toNat := by unfold bysL; rw [List.getElem?_toArray, List.getElem?_map]
/-- The text of a part of a row of octets that is known whole. -/
theorem str_of_bysL {P : Program} {w : World} {g t off len cap : Nat} {R : List UInt8} (hb : Blk w g (bysL R) t) (src dst e : TypeId) (hs : P.underlying src = some (.slice e)) (he : P.underlying e = some (.int .u8)) (hd : P.underlying dst = some .string)
    (h : off + len ≤ R.length) : (convert src dst (.slice (some ⟨g, off, none⟩) len cap)).run P w = .ok (.string ⟨((R.drop off).take len).toArray⟩) w := by
  have hl : ((R.drop off).take len).length = len := by simp; omega
  have := run_convert_bytes_arg (P := P) w src e hs he g off len cap (((R.drop off).take len).map fun b : UInt8 => (b.toNat : Int)) (by simp; omega) (fun i hi => by
    rw [hb.cell, bysL_get]
    have h2 : ((R.drop off).take len)[i]? = R[off + i]? := by rw [List.getElem?_take_of_lt hi, List.getElem?_drop]
    have h3 : off + i < R.length := by omega
    rw [List.getD_eq_getElem?_getD, List.getElem?_map, h2, List.getElem?_eq_getElem h3]
    rfl) dst hd
  rw [this]
  congr 2
  unfold strOfNums
  simp [Function.comp_def]
def room (p : Nat) (acc : List UInt8) : List UInt8 := List.replicate p 0 ++ acc
theorem room_set (p : Nat) (acc : List UInt8) (c : UInt8) : (bysL (room (p + 1) acc)).setIfInBounds p (.int .u8 c.toNat) = bysL (room p (c :: acc)) := by
  apply Array.ext_getElem?
  intro j
  rw [Array.getElem?_setIfInBounds, bysL_get, bysL_get]
  unfold room
  by_cases hj : p = j
  · subst hj
    rw [if_pos rfl, if_pos (by unfold bysL; simp; omega), List.getElem?_append_right (by simp), List.length_replicate, Nat.sub_self]
    rfl
  · rw [if_neg hj]
    by_cases hl : j < p
    · rw [List.getElem?_append_left (by simp; omega), List.getElem?_append_left (by simpa using hl), List.getElem?_replicate, List.getElem?_replicate, if_pos hl, if_pos (by omega)]
    · rw [List.getElem?_append_right (by simp; omega), List.getElem?_append_right (by simp; omega), List.length_replicate, List.length_replicate, show j - p = (j - (p + 1)) + 1 by omega, List.getElem?_cons_succ]
theorem room_tail (p : Nat) (acc : List UInt8) : ((room p acc).drop p).take acc.length = acc := by
  unfold room
  rw [List.drop_append_of_le_length (by simp)]
  simp
def signS : ByteArray := ⟨#[48, 49, 50, 51, 52, 53, 54, 55, 56, 57, 97, 98, 99, 100, 101, 102]⟩
theorem sign_at (k : Nat) (h : k < 16) (W : World) : (Instr.index 9 (.string ⟨#[48, 49, 50, 51, 52, 53, 54, 55, 56, 57, 97, 98, 99, 100, 101, 102]⟩) (.int .i64 (k : Int))).run Tryd.prog W = .ok (.int .u8 (figD k).toNat) W := by
  have h1 := run_index_string (P := Tryd.prog) (w := W) 9 signS .i64 (k : Int) Tryd.underlying9
  have hs : signS.size = 16 := rfl
  have h2 : 0 ≤ (k : Int) ∧ (k : Int) < signS.size := by omega
  rw [dif_pos h2] at h1
  rw [show (Instr.index 9 (.string ⟨#[48, 49, 50, 51, 52, 53, 54, 55, 56, 57, 97, 98, 99, 100, 101, 102]⟩) (.int .i64 (k : Int))) = (Instr.index 9 (.string signS) (.int .i64 (k : Int))) from rfl, h1]
  have h3 : ∀ k, k < 16 → signS.data[k]? = some (figD k) := by decide
  have h4 : (signS[k]'(by omega)) = figD k := by
    have := h3 k h
    rw [Array.getElem?_eq_getElem (by exact h)] at this
    exact Option.some.inj this
  exact congrArg (fun b : UInt8 => Result.ok (Value.int .u8 (b.toNat : Int)) W) h4
/-- What the loop of figures holds: p octets of room, the figures so far. -/
def FigI (b : Nat) (n m : Int) (p : Nat) (acc : List UInt8) : Prop :=
  p + acc.length = 64 ∧ ((acc = [] ∧ m = n) ∨ (acc ≠ [] ∧ figT b m.natAbs ++ acc = figL b n.natAbs)) ∧ m.natAbs * 2 ^ acc.length ≤ 2 ^ 63
theorem FigI.start (b : Nat) (n : Int) (h : -9223372036854775808 ≤ n) (h' : n ≤ 9223372036854775807) : FigI b n n 64 [] := ⟨rfl, .inl ⟨rfl, rfl⟩, by simp only [List.length_nil, Nat.pow_zero, Nat.mul_one]; omega⟩
theorem FigI.next {b : Nat} (hb : 2 ≤ b) {n m q : Int} {p k : Nat} {acc : List UInt8} (h : FigI b n m (p + 1) acc) (hm : acc = [] ∨ m ≠ 0) (hq : q.natAbs = m.natAbs / b) (hk : k = m.natAbs % b) : FigI b n q p (figD k :: acc) := by
  obtain ⟨h1, h2, h3⟩ := h
  subst hk
  refine ⟨by simp only [List.length_cons]; omega, .inr ⟨by simp, ?_⟩, ?_⟩
  · rw [hq]
    rcases h2 with ⟨rfl, rfl⟩ | ⟨ha, h2⟩
    · exact (figL_step hb _).symm
    · have hm0 : m ≠ 0 := by
        rcases hm with h | h
        · exact absurd h ha
        · exact h
      rw [← h2, figT_pos b (n := m.natAbs) (by omega), figL_step hb m.natAbs, List.append_assoc]
      rfl
  · rw [hq, List.length_cons, Nat.pow_succ, Nat.mul_comm (2 ^ acc.length) 2, ← Nat.mul_assoc]
    refine Nat.le_trans (Nat.mul_le_mul_right _ ?_) h3
    have h5 : m.natAbs / b ≤ m.natAbs / 2 := Nat.div_le_div_left hb (by omega)
    omega
theorem FigI.room {b : Nat} {n m : Int} {p : Nat} {acc : List UInt8} (h : FigI b n m p acc) (hm : acc = [] ∨ m ≠ 0) : 1 ≤ p := by
  obtain ⟨h1, _, h3⟩ := h
  rcases hm with rfl | hm
  · rw [List.length_nil] at h1; omega
  · have h4 : 2 ^ acc.length ≤ 2 ^ 63 := Nat.le_trans (Nat.le_mul_of_pos_left _ (by omega)) h3
    have h5 := (Nat.pow_le_pow_iff_right (by decide : 1 < 2)).1 h4
    omega
theorem FigI.done {b : Nat} {n : Int} {p : Nat} {acc : List UInt8} (h : FigI b n 0 p acc) (ha : acc ≠ []) : acc = figL b n.natAbs := by
  obtain ⟨_, h2, _⟩ := h
  rcases h2 with ⟨h, _⟩ | ⟨_, h2⟩
  · exact absurd h ha
  · exact h2
theorem tmod_nat (m : Int) (b : Nat) : (m.tmod b).natAbs = m.natAbs % b := by
  rw [Int.natAbs_tmod]; rfl
theorem tdiv_nat (m : Int) (b : Nat) : (m.tdiv b).natAbs = m.natAbs / b := by
  rw [Int.natAbs_tdiv]; rfl
theorem zeros_room : (#[.int .u8 0, .int .u8 0, .int .u8 0, .int .u8 0, .int .u8 0, .int .u8 0, .int .u8 0, .int .u8 0, .int .u8 0, .int .u8 0, .int .u8 0, .int .u8 0, .int .u8 0, .int .u8 0, .int .u8 0, .int .u8 0, .int .u8 0, .int .u8 0, .int .u8 0, .int .u8 0, .int .u8 0, .int .u8 0, .int .u8 0, .int .u8 0, .int .u8 0, .int .u8 0, .int .u8 0, .int .u8 0, .int .u8 0, .int .u8 0, .int .u8 0, .int .u8 0, .int .u8 0, .int .u8 0, .int .u8 0, .int .u8 0, .int .u8 0, .int .u8 0, .int .u8 0, .int .u8 0, .int .u8 0, .int .u8 0, .int .u8 0, .int .u8 0, .int .u8 0, .int .u8 0, .int .u8 0, .int .u8 0, .int .u8 0, .int .u8 0, .int .u8 0, .int .u8 0, .int .u8 0, .int .u8 0, .int .u8 0, .int .u8 0, .int .u8 0, .int .u8 0, .int .u8 0, .int .u8 0, .int .u8 0, .int .u8 0, .int .u8 0, .int .u8 0] : Array Value) = bysL (room 64 []) := rfl
end Go.Proofs.YtbglakhojbhfbaaDoor

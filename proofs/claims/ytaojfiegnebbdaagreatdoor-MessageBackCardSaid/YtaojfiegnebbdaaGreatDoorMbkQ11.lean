/- Texts packed for one claim, 11 of 52: Fig. -/
import Derived.Test.YtaojfiegnebbdaaGreatDoorMbkQ2
import Derived.Laws.BytesArg
set_option maxRecDepth 100000
set_option maxHeartbeats 16000000
set_option linter.unusedSimpArgs false
set_option linter.unusedVariables false
-- Fig
namespace Go.Proofs.YtaojfiegnebbdaaGreatDoor
open Go.RowKit
def figD (d : Nat) : UInt8 := if d < 10 then UInt8.ofNat (48 + d) else UInt8.ofNat (87 + d)
def figL (b n : Nat) : List UInt8 := if h : 2 ≤ b ∧ b ≤ n then figL b (n / b) ++ [figD (n % b)] else [figD n]
termination_by n
decreasing_by exact Nat.div_lt_self (by omega) (by omega)
def figT (b n : Nat) : List UInt8 := if n = 0 then [] else figL b n
theorem figL_step {b : Nat} (hb : 2 ≤ b) (n : Nat) : figL b n = figT b (n / b) ++ [figD (n % b)] := by
 rw [figL]
 by_cases h : b ≤ n
 ·rw [dif_pos ⟨hb, h⟩]
  unfold figT
  rw [if_neg (by have := Nat.div_pos h (by omega : 0 < b); omega)]
 ·rw [dif_neg (fun h' => h h'.2)]
  unfold figT
  rw [Nat.div_eq_of_lt (by omega), if_pos rfl, Nat.mod_eq_of_lt (by omega)]
  rfl
theorem figL_ne {b : Nat} (hb : 2 ≤ b) (n : Nat) : figL b n ≠ [] := by rw [figL_step hb]; simp
theorem figT_pos (b : Nat) {n : Nat} (h : n ≠ 0) : figT b n = figL b n := by unfold figT; rw [if_neg h]
def bysL (l : List UInt8) : Array Value := (l.map fun b => Value.int .u8 b.toNat).toArray
theorem bysL_get (l : List UInt8) (i : Nat) : (bysL l)[i]? = l[i]?.map fun b => Value.int .u8 b.toNat := by unfold bysL; rw [List.getElem?_toArray, List.getElem?_map]
theorem str_of_bysL {P : Program} {w : World} {g t off len cap : Nat} {R : List UInt8} (hb : Blk w g (bysL R) t) (src dst e : TypeId) (hs : P.underlying src = some (.slice e)) (he : P.underlying e = some (.int .u8)) (hd : P.underlying dst = some .string)
 (h : off + len ≤ R.length) : (convert src dst (.slice (some ⟨g, off, none⟩) len cap)).run P w = .ok (.string ⟨((R.drop off).take len).toArray⟩) w := by
 have hl : ((R.drop off).take len).length = len := by simp; omega
 have := run_convert_bytes_arg (P := P) w src e hs he g off len cap (((R.drop off).take len).map fun b : UInt8 => (b.toNat : Int)) (by simp; omega) (fun i hi => by
  rw [hb.cell, bysL_get]
  have h2 : ((R.drop off).take len)[i]? = R[off + i]? := by rw [List.getElem?_take_of_lt hi, List.getElem?_drop]
  have h3 : off + i < R.length := by omega
  rw [List.getD_eq_getElem?_getD, List.getElem?_map, h2, List.getElem?_eq_getElem h3]
  rfl) dst hd
 rw [this]
 congr 2
 unfold strOfNums
 simp [Function.comp_def]
def room (p : Nat) (acc : List UInt8) : List UInt8 := List.replicate p 0 ++ acc
theorem room_set (p : Nat) (acc : List UInt8) (c : UInt8) : (bysL (room (p + 1) acc)).setIfInBounds p (.int .u8 c.toNat) = bysL (room p (c :: acc)) := by
 apply Array.ext_getElem?
 intro j
 rw [Array.getElem?_setIfInBounds, bysL_get, bysL_get]
 unfold room
 by_cases hj : p = j
 ·subst hj
  rw [if_pos rfl, if_pos (by unfold bysL; simp; omega), List.getElem?_append_right (by simp), List.length_replicate, Nat.sub_self]
  rfl
 ·rw [if_neg hj]
  by_cases hl : j < p
  ·rw [List.getElem?_append_left (by simp; omega), List.getElem?_append_left (by simpa using hl), List.getElem?_replicate, List.getElem?_replicate, if_pos hl, if_pos (by omega)]
  ·rw [List.getElem?_append_right (by simp; omega), List.getElem?_append_right (by simp; omega), List.length_replicate, List.length_replicate, show j - p = (j - (p + 1)) + 1 by omega, List.getElem?_cons_succ]
theorem room_tail (p : Nat) (acc : List UInt8) : ((room p acc).drop p).take acc.length = acc := by
 unfold room
 rw [List.drop_append_of_le_length (by simp)]
 simp
def signS : ByteArray := ⟨#[48, 49, 50, 51, 52, 53, 54, 55, 56, 57, 97, 98, 99, 100, 101, 102]⟩
theorem sign_at (k : Nat) (h : k < 16) (W : World) : (Instr.index 9 (.string ⟨#[48, 49, 50, 51, 52, 53, 54, 55, 56, 57, 97, 98, 99, 100, 101, 102]⟩) (.int .i64 (k : Int))).run Tryz.prog W = .ok (.int .u8 (figD k).toNat) W := by
 have h1 := run_index_string (P := Tryz.prog) (w := W) 9 signS .i64 (k : Int) Tryz.underlying9
 have hs : signS.size = 16 := rfl
 have h2 : 0 ≤ (k : Int) ∧ (k : Int) < signS.size := by omega
 rw [dif_pos h2] at h1
 rw [show (Instr.index 9 (.string ⟨#[48, 49, 50, 51, 52, 53, 54, 55, 56, 57, 97, 98, 99, 100, 101, 102]⟩) (.int .i64 (k : Int))) = (Instr.index 9 (.string signS) (.int .i64 (k : Int))) from rfl, h1]
 have h3 : ∀ k, k < 16 → signS.data[k]? = some (figD k) := by decide
 have h4 : (signS[k]'(by omega)) = figD k := by
  have := h3 k h
  rw [Array.getElem?_eq_getElem (by exact h)] at this
  exact Option.some.inj this
 exact congrArg (fun b : UInt8 => Result.ok (Value.int .u8 (b.toNat : Int)) W) h4
def FigI (b : Nat) (n m : Int) (p : Nat) (acc : List UInt8) : Prop :=
 p + acc.length = 64 ∧ ((acc = [] ∧ m = n) ∨ (acc ≠ [] ∧ figT b m.natAbs ++ acc = figL b n.natAbs)) ∧ m.natAbs * 2 ^ acc.length ≤ 2 ^ 63
theorem FigI.start (b : Nat) (n : Int) (h : -9223372036854775808 ≤ n) (h' : n ≤ 9223372036854775807) : FigI b n n 64 [] := ⟨rfl, .inl ⟨rfl, rfl⟩, by simp only [List.length_nil, Nat.pow_zero, Nat.mul_one]; omega⟩
theorem FigI.next {b : Nat} (hb : 2 ≤ b) {n m q : Int} {p k : Nat} {acc : List UInt8} (h : FigI b n m (p + 1) acc) (hm : acc = [] ∨ m ≠ 0) (hq : q.natAbs = m.natAbs / b) (hk : k = m.natAbs % b) : FigI b n q p (figD k :: acc) := by
 obtain ⟨h1, h2, h3⟩ := h
 subst hk
 refine ⟨by simp only [List.length_cons]; omega, .inr ⟨by simp, ?_⟩, ?_⟩
 ·rw [hq]
  rcases h2 with ⟨rfl, rfl⟩ | ⟨ha, h2⟩
  ·exact (figL_step hb _).symm
  ·have hm0 : m ≠ 0 := by
    rcases hm with h | h
    ·exact absurd h ha
    ·exact h
   rw [← h2, figT_pos b (n := m.natAbs) (by omega), figL_step hb m.natAbs, List.append_assoc]
   rfl
 ·rw [hq, List.length_cons, Nat.pow_succ, Nat.mul_comm (2 ^ acc.length) 2, ← Nat.mul_assoc]
  refine nT (Nat.mul_le_mul_right _ ?_) h3
  have h5 : m.natAbs / b ≤ m.natAbs / 2 := Nat.div_le_div_left hb (by omega)
  omega
theorem FigI.room {b : Nat} {n m : Int} {p : Nat} {acc : List UInt8} (h : FigI b n m p acc) (hm : acc = [] ∨ m ≠ 0) : 1 ≤ p := by
 obtain ⟨h1, _, h3⟩ := h
 rcases hm with rfl | hm
 ·rw [List.length_nil] at h1; omega
 ·have h4 : 2 ^ acc.length ≤ 2 ^ 63 := nT (Nat.le_mul_of_pos_left _ (by omega)) h3
  have h5 := (Nat.pow_le_pow_iff_right (by decide : 1 < 2)).1 h4
  omega
theorem FigI.done {b : Nat} {n : Int} {p : Nat} {acc : List UInt8} (h : FigI b n 0 p acc) (ha : acc ≠ []) : acc = figL b n.natAbs := by
 obtain ⟨_, h2, _⟩ := h
 rcases h2 with ⟨h, _⟩ | ⟨_, h2⟩
 ·exact absurd h ha
 ·exact h2
theorem tmod_nat (m : Int) (b : Nat) : (m.tmod b).natAbs = m.natAbs % b := by
 rw [Int.natAbs_tmod]; rfl
theorem tdiv_nat (m : Int) (b : Nat) : (m.tdiv b).natAbs = m.natAbs / b := by
 rw [Int.natAbs_tdiv]; rfl
theorem zeros_room : (#[.int .u8 0, .int .u8 0, .int .u8 0, .int .u8 0, .int .u8 0, .int .u8 0, .int .u8 0, .int .u8 0, .int .u8 0, .int .u8 0, .int .u8 0, .int .u8 0, .int .u8 0, .int .u8 0, .int .u8 0, .int .u8 0, .int .u8 0, .int .u8 0, .int .u8 0, .int .u8 0, .int .u8 0, .int .u8 0, .int .u8 0, .int .u8 0, .int .u8 0, .int .u8 0, .int .u8 0, .int .u8 0, .int .u8 0, .int .u8 0, .int .u8 0, .int .u8 0, .int .u8 0, .int .u8 0, .int .u8 0, .int .u8 0, .int .u8 0, .int .u8 0, .int .u8 0, .int .u8 0, .int .u8 0, .int .u8 0, .int .u8 0, .int .u8 0, .int .u8 0, .int .u8 0, .int .u8 0, .int .u8 0, .int .u8 0, .int .u8 0, .int .u8 0, .int .u8 0, .int .u8 0, .int .u8 0, .int .u8 0, .int .u8 0, .int .u8 0, .int .u8 0, .int .u8 0, .int .u8 0, .int .u8 0, .int .u8 0, .int .u8 0, .int .u8 0] : Array Value) = bysL (room 64 []) := rfl
theorem figures_10 (n : Int) (h : -9223372036854775808 ≤ n) (h' : n ≤ 9223372036854775807) (w : World) : Calls Tryz.prog 172 #[.int .i64 n, .int .i64 10] w fun e w' => e = .returned (.string ⟨(figL 10 n.natAbs).toArray⟩) ∧ Below w.heap.size w w' := by
 obtain ⟨W, hW⟩ : ∃ W, W = w.alloc (.cells (bysL (room 64 [])) 208) := ⟨_, rfl⟩
 have hB : Blk W w.heap.size (bysL (room 64 [])) 208 := by rw [hW]; exact Blk.new _ _ _
 have HU : Hid (Below w.heap.size w W) := by show Below w.heap.size w W; rw [hW]; exact (Below.refl _ _).alloc (nR _) _
 have HW : Hid (w.alloc (.cells #[.int .u8 0, .int .u8 0, .int .u8 0, .int .u8 0, .int .u8 0, .int .u8 0, .int .u8 0, .int .u8 0, .int .u8 0, .int .u8 0, .int .u8 0, .int .u8 0, .int .u8 0, .int .u8 0, .int .u8 0, .int .u8 0, .int .u8 0, .int .u8 0, .int .u8 0, .int .u8 0, .int .u8 0, .int .u8 0, .int .u8 0, .int .u8 0, .int .u8 0, .int .u8 0, .int .u8 0, .int .u8 0, .int .u8 0, .int .u8 0, .int .u8 0, .int .u8 0, .int .u8 0, .int .u8 0, .int .u8 0, .int .u8 0, .int .u8 0, .int .u8 0, .int .u8 0, .int .u8 0, .int .u8 0, .int .u8 0, .int .u8 0, .int .u8 0, .int .u8 0, .int .u8 0, .int .u8 0, .int .u8 0, .int .u8 0, .int .u8 0, .int .u8 0, .int .u8 0, .int .u8 0, .int .u8 0, .int .u8 0, .int .u8 0, .int .u8 0, .int .u8 0, .int .u8 0, .int .u8 0, .int .u8 0, .int .u8 0, .int .u8 0, .int .u8 0] 208) = W) := by show _ = W; rw [hW, ← zeros_room]
 have HB := lH hB
 clear hB hW
 go_enter Tryz.func172, Tryz.ntmps172
 go_wp2_with fail
 rw [HW.out]
 clear HW
 go_loopw [0, 6] (fun v i wr => ∃ (m : Int) (p : Nat) (acc : List UInt8), v = .int .i64 m ∧ i = .int .i64 p ∧ -9223372036854775808 ≤ m ∧ m ≤ 9223372036854775807 ∧ FigI 10 n m p acc ∧ Blk wr w.heap.size (bysL (room p acc)) 208 ∧ Below w.heap.size w wr) (fun _ i _ => (intOf i).toNat)
 case atStart => exact ⟨n, 64, [], rfl, rfl, h, h', FigI.start 10 n h h', HB.out, HU.out⟩
 case round =>
  obtain ⟨m, p, acc, rfl, rfl, hm1, hm2, hI, hblk, hbel⟩ := hrel
  have HI := lH hI
  have HK := lH hblk
  have HL := lH hbel
  clear hI hblk hbel HB HU h h'
  by_cases hx : acc = [] ∨ m ≠ 0
  ·obtain ⟨p, rfl⟩ : ∃ k, p = k + 1 := ⟨p - 1, by have := HI.out.room hx; omega⟩
   have hp : p < 64 := by have := HI.out.1; omega
   obtain ⟨d, hd⟩ : ∃ d, m.tmod 10 = d := ⟨_, rfl⟩
   obtain ⟨q, hq⟩ : ∃ q, m.tdiv 10 = q := ⟨_, rfl⟩
   obtain ⟨k, hk⟩ : ∃ k, k = d.natAbs := ⟨_, rfl⟩
   have hk2 : k = m.natAbs % 10 := by rw [hk, ← hd]; exact tmod_nat m 10
   have hq2 : q.natAbs = m.natAbs / 10 := by rw [← hq]; exact tdiv_nat m 10
   have HN := lH (HI.out.next (by decide) hx hq2 hk2)
   have hk16 : k < 16 := by omega
   have hq3 : -9223372036854775808 ≤ q := by omega
   have hq4 : q ≤ 9223372036854775807 := by omega
   have hs : d = (k : Int) ∨ (d = -(k : Int) ∧ 1 ≤ k) := by omega
   have hq' : Value.int .i64 (m.tdiv 10) = .int .i64 q := by rw [hq]
   have hd' : Value.int .i64 (m.tmod 10) = .int .i64 d := by rw [hd]
   have hix : ∀ W : World, (Instr.index 9 (.string ⟨#[48, 49, 50, 51, 52, 53, 54, 55, 56, 57, 97, 98, 99, 100, 101, 102]⟩) (.int .i64 (k : Int))).run Tryz.prog W = .ok (.int .u8 (figD k).toNat) W := sign_at k hk16
   obtain ⟨c, hc⟩ : ∃ c : Int, c = (figD k).toNat := ⟨_, rfl⟩
   rw [← hc] at hix
   have HC := lH hc
   have c0 : wr.cell? ⟨w.heap.size, p, none⟩ = some (.int .u8 0) := by rw [HK.out.cell, bysL_get]; unfold Go.Proofs.YtaojfiegnebbdaaGreatDoor.room; rw [List.getElem?_append_left (by simp), List.getElem?_replicate, if_pos (by omega)]; rfl
   have f0 : wr.frozen? ⟨w.heap.size, p, none⟩ = false := HK.out.froz p
   have HX := lH hx
   have HS : Hid (Blk (wr.setCell ⟨w.heap.size, p, none⟩ (.int .u8 c)) w.heap.size (bysL (Go.Proofs.YtaojfiegnebbdaaGreatDoor.room p (figD k :: acc))) 208) := by
    show Blk _ _ _ _
    have := HK.out.set p (.int .u8 c)
    rw [hc, room_set] at this
    rw [hc]
    exact this
   have hpi : (p : Int) < 64 := by omega
   clear hc hk hk2 hq2 hx hq hd
   have hcond : (((p : Int) + 1 == 64) = true) ∨ (((p : Int) + 1 == 64) = false ∧ (m == 0) = false) := by
    rcases HX.out with h1 | h1
    ·have h2 := HI.out.1
     rw [h1, List.length_nil] at h2
     left; rw [beq_iff_eq]; omega
    ·by_cases h2 : p = 63
     ·left; rw [beq_iff_eq]; omega
     ·right; exact ⟨by rw [beq_eq_false_iff_ne]; omega, by rw [beq_eq_false_iff_ne]; exact h1⟩
   have hm0' : (m == 0) = false → (m != 0) = true := fun h => by rw [bne_iff_ne]; exact fun h' => by simp [h'] at h
   rcases hs with rfl | ⟨rfl, hk1⟩ <;> rcases hcond with h63 | ⟨h63, hm0⟩
   ·skip
    clear hm0'
    go_wp2_with fail
    go_roundw
    case rel => exact ⟨_, p, figD k :: acc, rfl, rfl, hq3, hq4, HN.out, HS.out, HL.out.setCell (nR _) _⟩
    case measure => simp [intOf]
   ·have hm1 := hm0' hm0
    clear hm0'
    go_wp2_with fail
    go_roundw
    case rel => exact ⟨_, p, figD k :: acc, rfl, rfl, hq3, hq4, HN.out, HS.out, HL.out.setCell (nR _) _⟩
    case measure => simp [intOf]
   ·skip
    clear hm0'
    go_wp2_with fail
    go_roundw
    case rel => exact ⟨_, p, figD k :: acc, rfl, rfl, hq3, hq4, HN.out, HS.out, HL.out.setCell (nR _) _⟩
    case measure => simp [intOf]
   ·have hm1 := hm0' hm0
    clear hm0'
    go_wp2_with fail
    go_roundw
    case rel => exact ⟨_, p, figD k :: acc, rfl, rfl, hq3, hq4, HN.out, HS.out, HL.out.setCell (nR _) _⟩
    case measure => simp [intOf]
  ·have ha : acc ≠ [] := fun h => hx (.inl h)
   obtain rfl : m = 0 := Classical.byContradiction fun h => hx (.inr h)
   have hp : p + acc.length = 64 := HI.out.1
   have hal : acc.length ≠ 0 := by simpa using ha
   have HD := lH (HI.out.done ha)
   have hne : ((p : Int) == 64) = false := by rw [beq_eq_false_iff_ne]; omega
   have hp64 : (p : Int) ≤ 64 := by omega
   have hsub : 64 - p = acc.length := by omega
   have hstr : ∀ cap, (convert 113 9 (.slice (some ⟨w.heap.size, p, none⟩) (64 - p) cap)).run Tryz.prog wr = .ok (.string ⟨acc.toArray⟩) wr := fun cap => by
    have := str_of_bysL (P := Tryz.prog) (off := p) (len := acc.length) (cap := cap) HK.out 113 9 5 Tryz.underlying113 Tryz.underlying5 Tryz.underlying9 (by unfold Go.Proofs.YtaojfiegnebbdaaGreatDoor.room; simp)
    rw [room_tail] at this
    rw [hsub]
    exact this
   clear hx ha hsub
   go_wp2_with fail
   go_ret
   rw [HD.out]
   exact ⟨rfl, HL.out⟩
theorem figures_16 (n : Int) (h : -9223372036854775808 ≤ n) (h' : n ≤ 9223372036854775807) (w : World) : Calls Tryz.prog 172 #[.int .i64 n, .int .i64 16] w fun e w' => e = .returned (.string ⟨(figL 16 n.natAbs).toArray⟩) ∧ Below w.heap.size w w' := by
 obtain ⟨W, hW⟩ : ∃ W, W = w.alloc (.cells (bysL (room 64 [])) 208) := ⟨_, rfl⟩
 have hB : Blk W w.heap.size (bysL (room 64 [])) 208 := by rw [hW]; exact Blk.new _ _ _
 have HU : Hid (Below w.heap.size w W) := by show Below w.heap.size w W; rw [hW]; exact (Below.refl _ _).alloc (nR _) _
 have HW : Hid (w.alloc (.cells #[.int .u8 0, .int .u8 0, .int .u8 0, .int .u8 0, .int .u8 0, .int .u8 0, .int .u8 0, .int .u8 0, .int .u8 0, .int .u8 0, .int .u8 0, .int .u8 0, .int .u8 0, .int .u8 0, .int .u8 0, .int .u8 0, .int .u8 0, .int .u8 0, .int .u8 0, .int .u8 0, .int .u8 0, .int .u8 0, .int .u8 0, .int .u8 0, .int .u8 0, .int .u8 0, .int .u8 0, .int .u8 0, .int .u8 0, .int .u8 0, .int .u8 0, .int .u8 0, .int .u8 0, .int .u8 0, .int .u8 0, .int .u8 0, .int .u8 0, .int .u8 0, .int .u8 0, .int .u8 0, .int .u8 0, .int .u8 0, .int .u8 0, .int .u8 0, .int .u8 0, .int .u8 0, .int .u8 0, .int .u8 0, .int .u8 0, .int .u8 0, .int .u8 0, .int .u8 0, .int .u8 0, .int .u8 0, .int .u8 0, .int .u8 0, .int .u8 0, .int .u8 0, .int .u8 0, .int .u8 0, .int .u8 0, .int .u8 0, .int .u8 0, .int .u8 0] 208) = W) := by show _ = W; rw [hW, ← zeros_room]
 have HB := lH hB
 clear hB hW
 go_enter Tryz.func172, Tryz.ntmps172
 go_wp2_with fail
 rw [HW.out]
 clear HW
 go_loopw [0, 6] (fun v i wr => ∃ (m : Int) (p : Nat) (acc : List UInt8), v = .int .i64 m ∧ i = .int .i64 p ∧ -9223372036854775808 ≤ m ∧ m ≤ 9223372036854775807 ∧ FigI 16 n m p acc ∧ Blk wr w.heap.size (bysL (room p acc)) 208 ∧ Below w.heap.size w wr) (fun _ i _ => (intOf i).toNat)
 case atStart => exact ⟨n, 64, [], rfl, rfl, h, h', FigI.start 16 n h h', HB.out, HU.out⟩
 case round =>
  obtain ⟨m, p, acc, rfl, rfl, hm1, hm2, hI, hblk, hbel⟩ := hrel
  have HI := lH hI
  have HK := lH hblk
  have HL := lH hbel
  clear hI hblk hbel HB HU h h'
  by_cases hx : acc = [] ∨ m ≠ 0
  ·obtain ⟨p, rfl⟩ : ∃ k, p = k + 1 := ⟨p - 1, by have := HI.out.room hx; omega⟩
   have hp : p < 64 := by have := HI.out.1; omega
   obtain ⟨d, hd⟩ : ∃ d, m.tmod 16 = d := ⟨_, rfl⟩
   obtain ⟨q, hq⟩ : ∃ q, m.tdiv 16 = q := ⟨_, rfl⟩
   obtain ⟨k, hk⟩ : ∃ k, k = d.natAbs := ⟨_, rfl⟩
   have hk2 : k = m.natAbs % 16 := by rw [hk, ← hd]; exact tmod_nat m 16
   have hq2 : q.natAbs = m.natAbs / 16 := by rw [← hq]; exact tdiv_nat m 16
   have HN := lH (HI.out.next (by decide) hx hq2 hk2)
   have hk16 : k < 16 := by omega
   have hq3 : -9223372036854775808 ≤ q := by omega
   have hq4 : q ≤ 9223372036854775807 := by omega
   have hs : d = (k : Int) ∨ (d = -(k : Int) ∧ 1 ≤ k) := by omega
   have hq' : Value.int .i64 (m.tdiv 16) = .int .i64 q := by rw [hq]
   have hd' : Value.int .i64 (m.tmod 16) = .int .i64 d := by rw [hd]
   have hix : ∀ W : World, (Instr.index 9 (.string ⟨#[48, 49, 50, 51, 52, 53, 54, 55, 56, 57, 97, 98, 99, 100, 101, 102]⟩) (.int .i64 (k : Int))).run Tryz.prog W = .ok (.int .u8 (figD k).toNat) W := sign_at k hk16
   obtain ⟨c, hc⟩ : ∃ c : Int, c = (figD k).toNat := ⟨_, rfl⟩
   rw [← hc] at hix
   have HC := lH hc
   have c0 : wr.cell? ⟨w.heap.size, p, none⟩ = some (.int .u8 0) := by rw [HK.out.cell, bysL_get]; unfold Go.Proofs.YtaojfiegnebbdaaGreatDoor.room; rw [List.getElem?_append_left (by simp), List.getElem?_replicate, if_pos (by omega)]; rfl
   have f0 : wr.frozen? ⟨w.heap.size, p, none⟩ = false := HK.out.froz p
   have HX := lH hx
   have HS : Hid (Blk (wr.setCell ⟨w.heap.size, p, none⟩ (.int .u8 c)) w.heap.size (bysL (Go.Proofs.YtaojfiegnebbdaaGreatDoor.room p (figD k :: acc))) 208) := by
    show Blk _ _ _ _
    have := HK.out.set p (.int .u8 c)
    rw [hc, room_set] at this
    rw [hc]
    exact this
   have hpi : (p : Int) < 64 := by omega
   clear hc hk hk2 hq2 hx hq hd
   have hcond : (((p : Int) + 1 == 64) = true) ∨ (((p : Int) + 1 == 64) = false ∧ (m == 0) = false) := by
    rcases HX.out with h1 | h1
    ·have h2 := HI.out.1
     rw [h1, List.length_nil] at h2
     left; rw [beq_iff_eq]; omega
    ·by_cases h2 : p = 63
     ·left; rw [beq_iff_eq]; omega
     ·right; exact ⟨by rw [beq_eq_false_iff_ne]; omega, by rw [beq_eq_false_iff_ne]; exact h1⟩
   have hm0' : (m == 0) = false → (m != 0) = true := fun h => by rw [bne_iff_ne]; exact fun h' => by simp [h'] at h
   rcases hs with rfl | ⟨rfl, hk1⟩ <;> rcases hcond with h63 | ⟨h63, hm0⟩
   ·skip
    clear hm0'
    go_wp2_with fail
    go_roundw
    case rel => exact ⟨_, p, figD k :: acc, rfl, rfl, hq3, hq4, HN.out, HS.out, HL.out.setCell (nR _) _⟩
    case measure => simp [intOf]
   ·have hm1 := hm0' hm0
    clear hm0'
    go_wp2_with fail
    go_roundw
    case rel => exact ⟨_, p, figD k :: acc, rfl, rfl, hq3, hq4, HN.out, HS.out, HL.out.setCell (nR _) _⟩
    case measure => simp [intOf]
   ·skip
    clear hm0'
    go_wp2_with fail
    go_roundw
    case rel => exact ⟨_, p, figD k :: acc, rfl, rfl, hq3, hq4, HN.out, HS.out, HL.out.setCell (nR _) _⟩
    case measure => simp [intOf]
   ·have hm1 := hm0' hm0
    clear hm0'
    go_wp2_with fail
    go_roundw
    case rel => exact ⟨_, p, figD k :: acc, rfl, rfl, hq3, hq4, HN.out, HS.out, HL.out.setCell (nR _) _⟩
    case measure => simp [intOf]
  ·have ha : acc ≠ [] := fun h => hx (.inl h)
   obtain rfl : m = 0 := Classical.byContradiction fun h => hx (.inr h)
   have hp : p + acc.length = 64 := HI.out.1
   have hal : acc.length ≠ 0 := by simpa using ha
   have HD := lH (HI.out.done ha)
   have hne : ((p : Int) == 64) = false := by rw [beq_eq_false_iff_ne]; omega
   have hp64 : (p : Int) ≤ 64 := by omega
   have hsub : 64 - p = acc.length := by omega
   have hstr : ∀ cap, (convert 113 9 (.slice (some ⟨w.heap.size, p, none⟩) (64 - p) cap)).run Tryz.prog wr = .ok (.string ⟨acc.toArray⟩) wr := fun cap => by
    have := str_of_bysL (P := Tryz.prog) (off := p) (len := acc.length) (cap := cap) HK.out 113 9 5 Tryz.underlying113 Tryz.underlying5 Tryz.underlying9 (by unfold Go.Proofs.YtaojfiegnebbdaaGreatDoor.room; simp)
    rw [room_tail] at this
    rw [hsub]
    exact this
   clear hx ha hsub
   go_wp2_with fail
   go_ret
   rw [HD.out]
   exact ⟨rfl, HL.out⟩
end Go.Proofs.YtaojfiegnebbdaaGreatDoor
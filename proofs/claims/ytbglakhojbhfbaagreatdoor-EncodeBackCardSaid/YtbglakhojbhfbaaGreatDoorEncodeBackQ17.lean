/- Texts packed for one claim, 17 of 49: ReqPlain ReqR Req StartLaw. -/
import Derived.Test.YtbglakhojbhfbaaGreatDoorEncodeBackQ4
import Derived.Test.YtbglakhojbhfbaaGreatDoorEncodeBackQ3
import Derived.Lib.SplitLaws
import Derived.Test.YtbglakhojbhfbaaGreatDoorShelf
import Derived.Test.YtbglakhojbhfbaaGreatDoorEncodeBackQ6
set_option linter.unusedSimpArgs false
set_option linter.unusedVariables false
-- ReqPlain
namespace Go.Proofs.YtbglakhojbhfbaaGreatDoor
open Go.RowKit
/-- Where the octet c stands. -/
def posL (c : UInt8) : Nat → List UInt8 → List Nat
  | _, [] => []
  | o, b :: l => if b = c then o :: posL c (o + 1) l else posL c (o + 1) l
theorem posL_cons_eq (c : UInt8) (o : Nat) (l : List UInt8) : posL c o (c :: l) = o :: posL c (o + 1) l := by rw [posL, if_pos rfl]
theorem posL_cons_ne {b c : UInt8} (h : b ≠ c) (o : Nat) (l : List UInt8) : posL c o (b :: l) = posL c (o + 1) l := by rw [posL, if_neg h]
theorem posL_append (c : UInt8) : ∀ (l : List UInt8) (o : Nat) (m : List UInt8), posL c o (l ++ m) = posL c o l ++ posL c (o + l.length) m
  | [], o, m => by simp [posL]
  | b :: l, o, m => by
    by_cases h : b = c
    · subst h
      rw [List.cons_append, posL_cons_eq, posL_cons_eq, posL_append b l (o + 1) m, List.length_cons, List.cons_append, Nat.add_assoc, Nat.add_comm 1]
    · rw [List.cons_append, posL_cons_ne h, posL_cons_ne h, posL_append c l (o + 1) m, List.length_cons, Nat.add_assoc, Nat.add_comm 1]
theorem posL_length (c : UInt8) : ∀ (l : List UInt8) (o : Nat), (posL c o l).length = l.count c
  | [], _ => rfl
  | b :: l, o => by
    by_cases h : b = c
    · subst h; rw [posL_cons_eq, List.length_cons, List.count_cons_self, posL_length b l]
    · rw [posL_cons_ne h, List.count_cons_of_ne (by simpa using h), posL_length c l]
theorem posL_mem (c : UInt8) : ∀ (l : List UInt8) (o k : Nat), k ∈ posL c o l → o ≤ k ∧ k < o + l.length ∧ l[k - o]? = some c
  | [], _, _, h => by simp [posL] at h
  | b :: l, o, k, h => by
    by_cases hb : b = c
    · subst hb
      rw [posL_cons_eq, List.mem_cons] at h
      rcases h with rfl | h
      · simp
      · have h1 := posL_mem b l (o + 1) k h
        refine ⟨by omega, by simp only [List.length_cons]; omega, ?_⟩
        rw [show k - o = (k - (o + 1)) + 1 by omega, List.getElem?_cons_succ]
        exact h1.2.2
    · rw [posL_cons_ne hb] at h
      have h1 := posL_mem c l (o + 1) k h
      refine ⟨by omega, by simp only [List.length_cons]; omega, ?_⟩
      rw [show k - o = (k - (o + 1)) + 1 by omega, List.getElem?_cons_succ]
      exact h1.2.2
/-- The first of them: nothing of it stands ahead. -/
theorem posL_first {c : UInt8} : ∀ {l : List UInt8} {o k : Nat} {r : List Nat}, posL c o l = k :: r → o ≤ k ∧ (∀ j, o + j < k → l[j]? ≠ some c) ∧ l[k - o]? = some c ∧ r = posL c (k + 1) (l.drop (k - o + 1))
  | [], _, _, _, h => by simp [posL] at h
  | b :: l, o, k, r, h => by
    by_cases hb : b = c
    · subst hb
      rw [posL_cons_eq] at h
      obtain ⟨rfl, rfl⟩ := List.cons.inj h
      exact ⟨Nat.le_refl _, fun j hj => by omega, by simp, by simp⟩
    · rw [posL_cons_ne hb] at h
      obtain ⟨h1, h2, h3, h4⟩ := posL_first h
      refine ⟨by omega, fun j hj => ?_, ?_, ?_⟩
      · cases j with
        | zero => simpa using hb
        | succ j => rw [List.getElem?_cons_succ]; exact h2 j (by omega)
      · rw [show k - o = (k - (o + 1)) + 1 by omega, List.getElem?_cons_succ]; exact h3
      · rw [h4, show k - o + 1 = (k - (o + 1) + 1) + 1 by omega, List.drop_succ_cons]
theorem occ_one (l : List UInt8) (c : UInt8) (j : Nat) : Lib.occAt l [c] j = true ↔ l[j]? = some c := by
  unfold Lib.occAt
  rcases Nat.lt_or_ge j l.length with h | h
  · rw [List.drop_eq_getElem_cons h, List.getElem?_eq_getElem h]
    simp only [List.isPrefixOf, Bool.and_true, beq_iff_eq, Option.some.injEq]
    exact ⟨Eq.symm, Eq.symm⟩
  · rw [List.drop_eq_nil_of_le h, List.getElem?_eq_none h]
    simp [List.isPrefixOf]
theorem index_pos {c : UInt8} {l : List UInt8} {k : Nat} {r : List Nat} (h : posL c 0 l = k :: r) : Lib.index l [c] = k := by
  obtain ⟨_, h2, h3, _⟩ := posL_first h
  rw [Nat.sub_zero] at h3
  refine Lib.index_first ?_ ((occ_one l c k).2 h3) fun j hj => ?_
  · rcases Nat.lt_or_ge k l.length with h | h
    · omega
    · rw [List.getElem?_eq_none h] at h3; cases h3
  · rw [Bool.eq_false_iff]
    exact fun h5 => h2 j (by omega) ((occ_one l c j).1 h5)
theorem posL_shift (c : UInt8) : ∀ (l : List UInt8) (o d : Nat), posL c (o + d) l = (posL c o l).map (· + d)
  | [], _, _ => rfl
  | b :: l, o, d => by
    by_cases h : b = c
    · subst h; rw [posL_cons_eq, posL_cons_eq, List.map_cons, show o + d + 1 = (o + 1) + d by omega, posL_shift b l]
    · rw [posL_cons_ne h, posL_cons_ne h, show o + d + 1 = (o + 1) + d by omega, posL_shift c l]
def spS : ByteArray := ⟨#[32]⟩
theorem count_pos (s : ByteArray) : Lib.countB s spS = (posL 32 0 s.data.toList).length := by
  rw [posL_length]; exact Lib.count_one 32 _
theorem split_two {s : ByteArray} {a b : Nat} (h : posL 32 0 s.data.toList = [a, b]) : a < b ∧ b < s.size ∧ Lib.splitB spS 0 2 s = [s.extract 0 a, s.extract (a + 1) b, s.extract (b + 1) s.size] := by
  have h1 := index_pos h
  obtain ⟨_, _, ha3, ha4⟩ := posL_first h
  rw [Nat.sub_zero] at ha3 ha4
  have hal : a < s.size := by
    rcases Nat.lt_or_ge a s.size with h | h
    · exact h
    · rw [List.getElem?_eq_none (by simpa using h)] at ha3; cases ha3
  have hb := posL_mem 32 _ 0 b (by rw [h]; simp)
  have hbl : b < s.size := by have := hb.2.1; simpa using this
  have hab : a < b := by
    have := posL_mem 32 _ (a + 1) b (by rw [← ha4]; simp)
    omega
  refine ⟨hab, hbl, ?_⟩
  have hd : (s.extract (a + 1) s.size).data.toList = s.data.toList.drop (a + 1) := by
    rw [Lib.extract_data, List.take_of_length_le (by rw [List.length_drop]; simp)]
  have h2 : posL 32 0 (s.extract (a + 1) s.size).data.toList = [b - (a + 1)] := by
    have h3 := posL_shift 32 (s.data.toList.drop (a + 1)) 0 (a + 1)
    rw [Nat.zero_add, ← ha4] at h3
    rw [hd]
    match hq : posL 32 0 (s.data.toList.drop (a + 1)), h3 with
    | [x], h3 => simp only [List.map_cons, List.map_nil, List.cons.injEq] at h3; simp; omega
    | [], h3 => simp at h3
    | _ :: _ :: _, h3 => simp at h3
  have h3 := index_pos h2
  rw [Lib.splitB_hit spS 0 1 s a h1, show (1 : Nat) = 0 + 1 from rfl, show s.extract (a + spS.size) s.size = s.extract (a + 1) s.size from rfl, Lib.splitB_hit spS 0 0 _ (b - (a + 1)) h3, Lib.splitB_zero]
  have hz : spS.size = 1 := rfl
  rw [hz, Nat.add_zero, Nat.add_zero]
  simp only [List.cons.injEq, and_true]
  refine ⟨trivial, ?_, ?_⟩
  · rw [ByteArray.extract_extract]; congr 1; omega
  · rw [ByteArray.extract_extract]; simp; congr 1 <;> omega
/-- A request line's method, target and minor version, or the error. -/
def reqRes (s : ByteArray) : (ByteArray × ByteArray × Int) × Int :=
  match posL 32 0 s.data.toList with
  | [a, b] =>
    if tokL (s.extract 0 a).data.toList = false then ((⟨#[]⟩, ⟨#[]⟩, 0), 6)
    else if visL (s.extract (a + 1) b).data.toList = false then ((⟨#[]⟩, ⟨#[]⟩, 0), 11)
    else if (vminor (s.extract (b + 1) s.size)).2 ≠ 0 then ((⟨#[]⟩, ⟨#[]⟩, 0), (vminor (s.extract (b + 1) s.size)).2)
    else ((s.extract 0 a, s.extract (a + 1) b, (vminor (s.extract (b + 1) s.size)).1), 0)
  | _ => ((⟨#[]⟩, ⟨#[]⟩, 0), 3)
end Go.Proofs.YtbglakhojbhfbaaGreatDoor
-- ReqR
namespace Go.Proofs.YtbglakhojbhfbaaGreatDoor
open Go.RowKit
theorem int_info : (Tryz.prog.info? 3).map (fun i => (i.zero, i.size, i.bytes)) = some (some (.int .i64 0), 1, 8) := by kernel_rfl
theorem wp_region_drewZ {P : Program} {id : Nat} {Q : Exit → Act → World → Prop} {a : Act} {w : World} {l : List Oper} (hm : P.follows .mixedOrders = true) (hB : Region.lexB .any l.toArray = true)
    (h : wpQuiet P l.toArray (fun w' => ∃ n, w' = w.drewN n) (fun a' => ∀ w', (∃ n, w' = w.drewN n) → Q .normal a' w') l a) : (Code.region id l.toArray true).wp P Q a w :=
  wp_region_quiet (C := fun w' => ∃ n, w' = w.drewN n) hm hB ⟨1, rfl⟩ (by simpa using h)
def hdZ : Array Value := #[.string ⟨#[]⟩, .string ⟨#[]⟩, .int .i64 0, .int .i64 0, .string ⟨#[]⟩, .slice none 0 0]
/-- A head written into a block. -/
def hdW (w : World) (g : Nat) (m t : ByteArray) (k n : Int) (r : ByteArray) : World := (((((w.setCell ⟨g, 0, none⟩ (.string m)).setCell ⟨g, 1, none⟩ (.string t)).setCell ⟨g, 2, none⟩ (.int .i64 k)).setCell ⟨g, 3, none⟩ (.int .i64 n)).setCell ⟨g, 4, none⟩ (.string r)).setCell ⟨g, 5, none⟩ (.slice none 0 0)
theorem hdW_blk {w : World} {g : Nat} {ty : TypeId} {a b c d e f : Value} (h : Blk w g #[a, b, c, d, e, f] ty) (m t : ByteArray) (k n : Int) (r : ByteArray) : Blk (hdW w g m t k n r) g #[.string m, .string t, .int .i64 k, .int .i64 n, .string r, .slice none 0 0] ty :=
  (((((h.set 0 (.string m)).set 1 (.string t)).set 2 (.int .i64 k)).set 3 (.int .i64 n)).set 4 (.string r)).set 5 (.slice none 0 0)
theorem hdW_below {w : World} {g B : Nat} {w0 : World} (h : Below B w0 w) (hg : B ≤ g) (m t : ByteArray) (k n : Int) (r : ByteArray) : Below B w0 (hdW w g m t k n r) :=
  (((((h.setCell hg _).setCell hg _).setCell hg _).setCell hg _).setCell hg _).setCell hg _
def posV (l : List UInt8) : List Value := (posL 32 0 l).map fun p : Nat => Value.int .i64 (p : Int)
theorem posV_length (l : List UInt8) : (posV l).length = (posL 32 0 l).length := by unfold posV; simp
theorem posV_hit (s : ByteArray) (k : Nat) (h : k < s.size) (hb : s[k] = 32) : posV (s.data.toList.take (k + 1)) = posV (s.data.toList.take k) ++ [.int .i64 (k : Int)] := by
  unfold posV
  rw [take_snoc s k h, posL_append, List.map_append, hb]
  rw [show (s.data.toList.take k).length = k by simp; omega, Nat.zero_add, posL_cons_eq]
  rfl
theorem posV_miss (s : ByteArray) (k : Nat) (h : k < s.size) (hb : s[k] ≠ 32) : posV (s.data.toList.take (k + 1)) = posV (s.data.toList.take k) := by
  unfold posV
  rw [take_snoc s k h, posL_append, List.map_append, posL_cons_ne hb]
  simp [posL]
theorem posV_le (l : List UInt8) : (posV l).length ≤ l.length := by rw [posV_length, posL_length]; exact List.count_le_length
theorem grown_blk {w w' : World} {row : Option Nat} {g : Nat} {cs : Array Value} {t : TypeId} (h : Blk w g cs t) (hg : w.grownBy w' row) (hne : some g ≠ row) : Blk w' g cs t := (hg.block g h.lt hne).trans h
theorem byte_of (s : ByteArray) (k : Nat) (h : k < s.size) (hb : bt s k = 32) : s[k] = 32 := by
  rw [bt_get s k h] at hb
  apply UInt8.toNat_inj.1
  have : (32 : UInt8).toNat = 32 := rfl
  omega
theorem byte_of_ne (s : ByteArray) (k : Nat) (h : k < s.size) (hb : bt s k ≠ 32) : s[k] ≠ 32 := by
  intro e
  apply hb
  rw [bt_get s k h, e]; rfl
theorem reqRes_form {s : ByteArray} (h : (posL 32 0 s.data.toList).length ≠ 2) : reqRes s = ((⟨#[]⟩, ⟨#[]⟩, 0), 3) := by
  unfold reqRes
  split
  · rename_i a b e; rw [e] at h; exact absurd rfl h
  · rfl
theorem reqRes_two {s : ByteArray} {a b : Nat} (h : posL 32 0 s.data.toList = [a, b]) : reqRes s =
    if tokL (s.extract 0 a).data.toList = false then ((⟨#[]⟩, ⟨#[]⟩, 0), 6)
    else if visL (s.extract (a + 1) b).data.toList = false then ((⟨#[]⟩, ⟨#[]⟩, 0), 11)
    else if (vminor (s.extract (b + 1) s.size)).2 ≠ 0 then ((⟨#[]⟩, ⟨#[]⟩, 0), (vminor (s.extract (b + 1) s.size)).2)
    else ((s.extract 0 a, s.extract (a + 1) b, (vminor (s.extract (b + 1) s.size)).1), 0) := by
  unfold reqRes; rw [h]
end Go.Proofs.YtbglakhojbhfbaaGreatDoor
-- Req
namespace Go.Proofs.YtbglakhojbhfbaaGreatDoor
open Go.RowKit
/-- What Request holds: the result's block, the words, the head, the error. -/
structure ReqI (w0 wr : World) (B : Nat) (M T V : ByteArray) (k e : Int) : Prop where
  z : Blk wr B hdZ 27
  v : Blk wr (B + 1) #[.string M, .string T, .string V] 9
  h : Blk wr (B + 2) #[.string M, .string T, .int .i64 k, .int .i64 0, .string ⟨#[]⟩, .slice none 0 0] 27
  x : Blk wr (B + 3) #[.int .i64 e] 32
  below : Below B w0 wr
section
variable {w0 wr w' : World} {B : Nat} {M T V : ByteArray} {k e : Int}
theorem ReqI.call (h : ReqI w0 wr B M T V k e) (hb : Below wr.heap.size wr w') : ReqI w0 w' B M T V k e :=
  ⟨h.z.call hb, h.v.call hb, h.h.call hb, h.x.call hb, h.below.trans (hb.mono (by have := h.x.lt; omega))⟩
theorem ReqI.set (h : ReqI w0 wr B M T V k e) (y : Int) : ReqI w0 (wr.setCell ⟨B + 3, 0, none⟩ (.int .i64 y)) B M T V k y :=
  ⟨h.z.far (by simp) _, h.v.far (by simp) _, h.h.far (by simp) _, h.x.set 0 _, h.below.setCell (by simp) _⟩
theorem ReqI.minor (h : ReqI w0 wr B M T V k e) (y : Int) : ReqI w0 (wr.setCell ⟨B + 2, 2, none⟩ (.int .i64 y)) B M T V y e :=
  ⟨h.z.far (by simp) _, h.v.far (by simp) _, h.h.set 2 _, h.x.far (by simp) _, h.below.setCell (by simp) _⟩
theorem ReqI.m0 (h : ReqI w0 wr B M T V k e) : wr.cell? ⟨B + 2, 0, none⟩ = some (.string M) := h.h.cell 0
theorem ReqI.m1 (h : ReqI w0 wr B M T V k e) : wr.cell? ⟨B + 2, 1, none⟩ = some (.string T) := h.h.cell 1
theorem ReqI.v2 (h : ReqI w0 wr B M T V k e) : wr.cell? ⟨B + 1, 2, none⟩ = some (.string V) := h.v.cell 2
theorem ReqI.x0 (h : ReqI w0 wr B M T V k e) : wr.cell? ⟨B + 3, 0, none⟩ = some (.int .i64 e) := h.x.cell 0
end
theorem reqI0 {w W2 : World} {M T V : ByteArray} (hK : Blk W2 w.heap.size hdZ 27) (hV : Blk W2 (w.heap.size + 1) #[.string M, .string T, .string V] 9) (hL : Below w.heap.size w W2) (hz : W2.heap.size = w.heap.size + 2) :
    ReqI w ((W2.alloc (.cells #[.string M, .string T, .int .i64 0, .int .i64 0, .string ⟨#[]⟩, .slice none 0 0] 27)).alloc (.cells #[.int .i64 0] 32)).drew w.heap.size M T V 0 0 :=
  ⟨((hK.alloc _).alloc _).drew, ((hV.alloc _).alloc _).drew, ((Blk.new' (by omega)).alloc _).drew, (Blk.new' (by simp; omega)).drew, ((hL.alloc (by omega) _).alloc (by simp; omega) _).drew⟩
/-- The first error stays. -/
def askE (p : Bool) (x e : Int) : Int := if e = 0 ∧ p = false then x else e
theorem reqE {s : ByteArray} {a b : Nat} (h : posL 32 0 s.data.toList = [a, b]) {k f : Int} (hv : vminor (s.extract (b + 1) s.size) = (k, f)) :
    reqRes s = if askE (f == 0) f (askE (visL (s.extract (a + 1) b).data.toList) 11 (askE (tokL (s.extract 0 a).data.toList) 6 0)) = 0 then ((s.extract 0 a, s.extract (a + 1) b, k), 0)
      else ((⟨#[]⟩, ⟨#[]⟩, 0), askE (f == 0) f (askE (visL (s.extract (a + 1) b).data.toList) 11 (askE (tokL (s.extract 0 a).data.toList) 6 0))) := by
  rw [reqRes_two h, hv]
  cases tokL (s.extract 0 a).data.toList <;> cases visL (s.extract (a + 1) b).data.toList <;> by_cases hf : f = 0 <;> simp [askE, hf]
end Go.Proofs.YtbglakhojbhfbaaGreatDoor
-- StartLaw
namespace Go.Proofs.YtbglakhojbhfbaaGreatDoor
open Go.RowKit
theorem mid_bt {s : ByteArray} (h : 12 ≤ s.size) : (mid3 s).data.toList.all (digB 10) = (isDg (bt s 9) && (isDg (bt s 10) && isDg (bt s 11))) := by
  rw [mid_list s h]
  simp only [List.all_cons, List.all_nil, digB_bt, Bool.and_true]
theorem mid_digs {s : ByteArray} (h : 12 ≤ s.size) (g9 : isDg (bt s 9) = true) (g10 : isDg (bt s 10) = true) (g11 : isDg (bt s 11) = true) : digs (mid3 s) := by
  intro k hk
  have hz : (mid3 s).size = 3 := by unfold mid3; simp; omega
  have hb : bt (mid3 s) k = bt s (k + 9) := by
    rw [bt_get _ k hk, bt_get s (k + 9) (by omega)]
    have h1 : (mid3 s).data.toList[k]? = s.data.toList[k + 9]? := by
      unfold mid3
      rw [Lib.extract_data, List.getElem?_take_of_lt (by omega), List.getElem?_drop, Nat.add_comm]
    rw [List.getElem?_eq_getElem (by simpa using hk), List.getElem?_eq_getElem (by simp; omega)] at h1
    have h2 := Option.some.inj h1
    exact congrArg (fun b : UInt8 => (b.toNat : Int)) h2
  rw [hb]
  simp only [isDg, decide_eq_true_eq] at g9 g10 g11
  rcases (by omega : k = 0 ∨ k = 1 ∨ k = 2) with rfl | rfl | rfl
  · exact g9
  · exact g10
  · exact g11
end Go.Proofs.YtbglakhojbhfbaaGreatDoor

/- Texts packed for one claim, 14 of 52: ReqPlain ReqR Req StartLaw. -/
import Derived.Test.YtaojfiegnebbdaaGreatDoorMbkQ4
import Derived.Test.YtaojfiegnebbdaaGreatDoorMbkQ3
import Derived.Lib.SplitLaws
import Derived.Test.YtaojfiegnebbdaaGreatDoorMbkShelf
set_option maxRecDepth 100000
set_option maxHeartbeats 16000000
set_option linter.unusedSimpArgs false
set_option linter.unusedVariables false
-- ReqPlain
namespace Go.Proofs.YtaojfiegnebbdaaGreatDoor
open Go.RowKit
def posL (c : UInt8) : Nat → List UInt8 → List Nat
 | _, [] => []
 | o, b :: l => if b = c then o :: posL c (o + 1) l else posL c (o + 1) l
theorem posL_cons_eq (c : UInt8) (o : Nat) (l : List UInt8) : posL c o (c :: l) = o :: posL c (o + 1) l := by rw [posL, if_pos rfl]
theorem posL_cons_ne {b c : UInt8} (h : b ≠ c) (o : Nat) (l : List UInt8) : posL c o (b :: l) = posL c (o + 1) l := by rw [posL, if_neg h]
theorem posL_append (c : UInt8) : ∀ (l : List UInt8) (o : Nat) (m : List UInt8), posL c o (l ++ m) = posL c o l ++ posL c (o + l.length) m
 | [], o, m => by simp [posL]
 | b :: l, o, m => by
   by_cases h : b = c
   ·subst h
    rw [List.cons_append, posL_cons_eq, posL_cons_eq, posL_append b l (o + 1) m, List.length_cons, List.cons_append, Nat.add_assoc, Nat.add_comm 1]
   ·rw [List.cons_append, posL_cons_ne h, posL_cons_ne h, posL_append c l (o + 1) m, List.length_cons, Nat.add_assoc, Nat.add_comm 1]
theorem posL_length (c : UInt8) : ∀ (l : List UInt8) (o : Nat), (posL c o l).length = l.count c
 | [], _ => rfl
 | b :: l, o => by
   by_cases h : b = c
   ·subst h; rw [posL_cons_eq, List.length_cons, List.count_cons_self, posL_length b l]
   ·rw [posL_cons_ne h, List.count_cons_of_ne (by simpa using h), posL_length c l]
theorem posL_mem (c : UInt8) : ∀ (l : List UInt8) (o k : Nat), k ∈ posL c o l → o ≤ k ∧ k < o + l.length ∧ l[k - o]? = some c
 | [], _, _, h => by simp [posL] at h
 | b :: l, o, k, h => by
   by_cases hb : b = c
   ·subst hb
    rw [posL_cons_eq, List.mem_cons] at h
    rcases h with rfl | h
    ·simp
    ·have h1 := posL_mem b l (o + 1) k h
     refine ⟨by omega, by simp only [List.length_cons]; omega, ?_⟩
     rw [show k - o = (k - (o + 1)) + 1 by omega, List.getElem?_cons_succ]
     exact h1.2.2
   ·rw [posL_cons_ne hb] at h
    have h1 := posL_mem c l (o + 1) k h
    refine ⟨by omega, by simp only [List.length_cons]; omega, ?_⟩
    rw [show k - o = (k - (o + 1)) + 1 by omega, List.getElem?_cons_succ]
    exact h1.2.2
theorem posL_first {c : UInt8} : ∀ {l : List UInt8} {o k : Nat} {r : List Nat}, posL c o l = k :: r → o ≤ k ∧ (∀ j, o + j < k → l[j]? ≠ some c) ∧ l[k - o]? = some c ∧ r = posL c (k + 1) (l.drop (k - o + 1))
 | [], _, _, _, h => by simp [posL] at h
 | b :: l, o, k, r, h => by
   by_cases hb : b = c
   ·subst hb
    rw [posL_cons_eq] at h
    obtain ⟨rfl, rfl⟩ := List.cons.inj h
    exact ⟨nR _, fun j hj => by omega, by simp, by simp⟩
   ·rw [posL_cons_ne hb] at h
    obtain ⟨h1, h2, h3, h4⟩ := posL_first h
    refine ⟨by omega, fun j hj => ?_, ?_, ?_⟩
    ·cases j with
     | zero => simpa using hb
     | succ j => rw [List.getElem?_cons_succ]; exact h2 j (by omega)
    ·rw [show k - o = (k - (o + 1)) + 1 by omega, List.getElem?_cons_succ]; exact h3
    ·rw [h4, show k - o + 1 = (k - (o + 1) + 1) + 1 by omega, List.drop_succ_cons]
theorem occ_one (l : List UInt8) (c : UInt8) (j : Nat) : Lib.occAt l [c] j = true ↔ l[j]? = some c := by
 unfold Lib.occAt
 rcases Nat.lt_or_ge j l.length with h | h
 ·rw [List.drop_eq_getElem_cons h, List.getElem?_eq_getElem h]
  simp only [List.isPrefixOf, Bool.and_true, beq_iff_eq, Option.some.injEq]
  exact ⟨Eq.symm, Eq.symm⟩
 ·rw [List.drop_eq_nil_of_le h, List.getElem?_eq_none h]
  simp [List.isPrefixOf]
theorem index_pos {c : UInt8} {l : List UInt8} {k : Nat} {r : List Nat} (h : posL c 0 l = k :: r) : Lib.index l [c] = k := by
 obtain ⟨_, h2, h3, _⟩ := posL_first h
 rw [Nat.sub_zero] at h3
 refine Lib.index_first ?_ ((occ_one l c k).2 h3) fun j hj => ?_
 ·rcases Nat.lt_or_ge k l.length with h | h
  ·omega
  ·rw [List.getElem?_eq_none h] at h3; cases h3
 ·rw [Bool.eq_false_iff]
  exact fun h5 => h2 j (by omega) ((occ_one l c j).1 h5)
theorem posL_shift (c : UInt8) : ∀ (l : List UInt8) (o d : Nat), posL c (o + d) l = (posL c o l).map (· + d)
 | [], _, _ => rfl
 | b :: l, o, d => by
   by_cases h : b = c
   ·subst h; rw [posL_cons_eq, posL_cons_eq, List.map_cons, show o + d + 1 = (o + 1) + d by omega, posL_shift b l]
   ·rw [posL_cons_ne h, posL_cons_ne h, show o + d + 1 = (o + 1) + d by omega, posL_shift c l]
def spS : ByteArray := ⟨#[32]⟩
theorem count_pos (s : ByteArray) : Lib.countB s spS = (posL 32 0 s.data.toList).length := by
 rw [posL_length]; exact Lib.count_one 32 _
theorem split_two {s : ByteArray} {a b : Nat} (h : posL 32 0 s.data.toList = [a, b]) : a < b ∧ b < s.size ∧ Lib.splitB spS 0 2 s = [s.extract 0 a, s.extract (a + 1) b, s.extract (b + 1) s.size] := by
 have h1 := index_pos h
 obtain ⟨_, _, ha3, ha4⟩ := posL_first h
 rw [Nat.sub_zero] at ha3 ha4
 have hal : a < s.size := by
  rcases Nat.lt_or_ge a s.size with h | h
  ·exact h
  ·rw [List.getElem?_eq_none (by simpa using h)] at ha3; cases ha3
 have hb := posL_mem 32 _ 0 b (by rw [h]; simp)
 have hbl : b < s.size := by have := hb.2.1; simpa using this
 have hab : a < b := by
  have := posL_mem 32 _ (a + 1) b (by rw [← ha4]; simp)
  omega
 refine ⟨hab, hbl, ?_⟩
 have hd : (s.extract (a + 1) s.size).data.toList = s.data.toList.drop (a + 1) := by
  rw [Lib.extract_data, List.take_of_length_le (by rw [List.length_drop]; simp)]
 have h2 : posL 32 0 (s.extract (a + 1) s.size).data.toList = [b - (a + 1)] := by
  have h3 := posL_shift 32 (s.data.toList.drop (a + 1)) 0 (a + 1)
  rw [Nat.zero_add, ← ha4] at h3
  rw [hd]
  match hq : posL 32 0 (s.data.toList.drop (a + 1)), h3 with
  | [x], h3 => simp only [List.map_cons, List.map_nil, List.cons.injEq] at h3; simp; omega
  | [], h3 => simp at h3
  | _ :: _ :: _, h3 => simp at h3
 have h3 := index_pos h2
 rw [Lib.splitB_hit spS 0 1 s a h1, show (1 : Nat) = 0 + 1 from rfl, show s.extract (a + spS.size) s.size = s.extract (a + 1) s.size from rfl, Lib.splitB_hit spS 0 0 _ (b - (a + 1)) h3, Lib.splitB_zero]
 have hz : spS.size = 1 := rfl
 rw [hz, Nat.add_zero, Nat.add_zero]
 simp only [List.cons.injEq, and_true]
 refine ⟨trivial, ?_, ?_⟩
 ·rw [ByteArray.extract_extract]; congr 1; omega
 ·rw [ByteArray.extract_extract]; simp; congr 1 <;> omega
def reqRes (s : ByteArray) : (ByteArray × ByteArray × Int) × Int :=
 match posL 32 0 s.data.toList with
 | [a, b] =>
   if tokL (s.extract 0 a).data.toList = false then ((⟨#[]⟩, ⟨#[]⟩, 0), 6)
   else if visL (s.extract (a + 1) b).data.toList = false then ((⟨#[]⟩, ⟨#[]⟩, 0), 11)
   else if (vminor (s.extract (b + 1) s.size)).2 ≠ 0 then ((⟨#[]⟩, ⟨#[]⟩, 0), (vminor (s.extract (b + 1) s.size)).2)
   else ((s.extract 0 a, s.extract (a + 1) b, (vminor (s.extract (b + 1) s.size)).1), 0)
 | _ => ((⟨#[]⟩, ⟨#[]⟩, 0), 3)
end Go.Proofs.YtaojfiegnebbdaaGreatDoor
-- ReqR
namespace Go.Proofs.YtaojfiegnebbdaaGreatDoor
open Go.RowKit
theorem wp_region_drewZ {P : Program} {id : Nat} {Q : Exit → Act → World → Prop} {a : Act} {w : World} {l : List Oper} (hm : P.follows .mixedOrders = true) (hB : Region.lexB .any l.toArray = true)
 (h : wpQuiet P l.toArray (fun w' => ∃ n, w' = w.drewN n) (fun a' => ∀ w', (∃ n, w' = w.drewN n) → Q .normal a' w') l a) : (Code.region id l.toArray true).wp P Q a w :=
 wp_region_quiet (C := fun w' => ∃ n, w' = w.drewN n) hm hB ⟨1, rfl⟩ (by simpa using h)
def hdZ : Array Value := #[.string ⟨#[]⟩, .string ⟨#[]⟩, .int .i64 0, .int .i64 0, .string ⟨#[]⟩, .slice none 0 0]
def hdW (w : World) (g : Nat) (m t : ByteArray) (k n : Int) (r : ByteArray) : World := (((((w.setCell ⟨g, 0, none⟩ (.string m)).setCell ⟨g, 1, none⟩ (.string t)).setCell ⟨g, 2, none⟩ (.int .i64 k)).setCell ⟨g, 3, none⟩ (.int .i64 n)).setCell ⟨g, 4, none⟩ (.string r)).setCell ⟨g, 5, none⟩ (.slice none 0 0)
theorem hdW_blk {w : World} {g : Nat} {ty : TypeId} {a b c d e f : Value} (h : Blk w g #[a, b, c, d, e, f] ty) (m t : ByteArray) (k n : Int) (r : ByteArray) : Blk (hdW w g m t k n r) g #[.string m, .string t, .int .i64 k, .int .i64 n, .string r, .slice none 0 0] ty :=
 (((((h.set 0 (.string m)).set 1 (.string t)).set 2 (.int .i64 k)).set 3 (.int .i64 n)).set 4 (.string r)).set 5 (.slice none 0 0)
theorem hdW_below {w : World} {g B : Nat} {w0 : World} (h : Below B w0 w) (hg : B ≤ g) (m t : ByteArray) (k n : Int) (r : ByteArray) : Below B w0 (hdW w g m t k n r) :=
 (((((h.setCell hg _).setCell hg _).setCell hg _).setCell hg _).setCell hg _).setCell hg _
theorem reqRes_form {s : ByteArray} (h : (posL 32 0 s.data.toList).length ≠ 2) : reqRes s = ((⟨#[]⟩, ⟨#[]⟩, 0), 3) := by
 unfold reqRes
 split
 ·rename_i a b e; rw [e] at h; exact absurd rfl h
 ·rfl
theorem reqRes_two {s : ByteArray} {a b : Nat} (h : posL 32 0 s.data.toList = [a, b]) : reqRes s =
 if tokL (s.extract 0 a).data.toList = false then ((⟨#[]⟩, ⟨#[]⟩, 0), 6)
 else if visL (s.extract (a + 1) b).data.toList = false then ((⟨#[]⟩, ⟨#[]⟩, 0), 11)
 else if (vminor (s.extract (b + 1) s.size)).2 ≠ 0 then ((⟨#[]⟩, ⟨#[]⟩, 0), (vminor (s.extract (b + 1) s.size)).2)
 else ((s.extract 0 a, s.extract (a + 1) b, (vminor (s.extract (b + 1) s.size)).1), 0) := by
 unfold reqRes; rw [h]
end Go.Proofs.YtaojfiegnebbdaaGreatDoor
-- Req
namespace Go.Proofs.YtaojfiegnebbdaaGreatDoor
open Go.RowKit
structure ReqI (w0 wr : World) (B : Nat) (M T V : ByteArray) (k e : Int) : Prop where
 z : Blk wr B hdZ 34
 v : Blk wr (B + 1) #[.string M, .string T, .string V] 9
 h : Blk wr (B + 2) #[.string M, .string T, .int .i64 k, .int .i64 0, .string ⟨#[]⟩, .slice none 0 0] 34
 x : Blk wr (B + 3) #[.int .i64 e] 29
 below : Below B w0 wr
section
variable {w0 wr w' : World} {B : Nat} {M T V : ByteArray} {k e : Int}
theorem ReqI.call (h : ReqI w0 wr B M T V k e) (hb : Below wr.heap.size wr w') : ReqI w0 w' B M T V k e :=
 ⟨h.z.call hb, h.v.call hb, h.h.call hb, h.x.call hb, h.below.trans (hb.mono (by have := h.x.lt; omega))⟩
theorem ReqI.set (h : ReqI w0 wr B M T V k e) (y : Int) : ReqI w0 (wr.setCell ⟨B + 3, 0, none⟩ (.int .i64 y)) B M T V k y :=
 ⟨h.z.far (by simp) _, h.v.far (by simp) _, h.h.far (by simp) _, h.x.set 0 _, h.below.setCell (by simp) _⟩
theorem ReqI.minor (h : ReqI w0 wr B M T V k e) (y : Int) : ReqI w0 (wr.setCell ⟨B + 2, 2, none⟩ (.int .i64 y)) B M T V y e :=
 ⟨h.z.far (by simp) _, h.v.far (by simp) _, h.h.set 2 _, h.x.far (by simp) _, h.below.setCell (by simp) _⟩
theorem ReqI.m0 (h : ReqI w0 wr B M T V k e) : wr.cell? ⟨B + 2, 0, none⟩ = some (.string M) := h.h.cell 0
theorem ReqI.m1 (h : ReqI w0 wr B M T V k e) : wr.cell? ⟨B + 2, 1, none⟩ = some (.string T) := h.h.cell 1
theorem ReqI.v2 (h : ReqI w0 wr B M T V k e) : wr.cell? ⟨B + 1, 2, none⟩ = some (.string V) := h.v.cell 2
theorem ReqI.x0 (h : ReqI w0 wr B M T V k e) : wr.cell? ⟨B + 3, 0, none⟩ = some (.int .i64 e) := h.x.cell 0
end
theorem reqI0 {w W2 : World} {M T V : ByteArray} (hK : Blk W2 w.heap.size hdZ 34) (hV : Blk W2 (w.heap.size + 1) #[.string M, .string T, .string V] 9) (hL : Below w.heap.size w W2) (hz : W2.heap.size = w.heap.size + 2) :
 ReqI w ((W2.alloc (.cells #[.string M, .string T, .int .i64 0, .int .i64 0, .string ⟨#[]⟩, .slice none 0 0] 34)).alloc (.cells #[.int .i64 0] 29)).drew w.heap.size M T V 0 0 :=
 ⟨((hK.alloc _).alloc _).drew, ((hV.alloc _).alloc _).drew, ((Blk.new' (by omega)).alloc _).drew, (Blk.new' (by simp; omega)).drew, ((hL.alloc (by omega) _).alloc (by simp; omega) _).drew⟩
def askE (p : Bool) (x e : Int) : Int := if e = 0 ∧ p = false then x else e
theorem ask_any {w0 wr : World} {B : Nat} {M T V : ByteArray} {k e : Int} (h : Hid (ReqI w0 wr B M T V k e)) (p : Bool) (x : Int) :
 Calls Tryz.prog 220 #[.bool p, .int .i64 x, .pointer (some ⟨B + 3, 0, none⟩)] wr fun r w' => r = .returned (.tuple #[]) ∧ Hid (ReqI w0 w' B M T V k (askE p x e)) := by
 have c0 := h.out.x0
 have f0 : wr.frozen? ⟨B + 3, 0, none⟩ = false := h.out.x.froz 0
 by_cases he : e = 0
 ·subst he
  cases p
  ·have HA : Hid (askE false x 0 = x) := by show askE false x 0 = x; unfold askE; rw [if_pos ⟨rfl, rfl⟩]
   go_enter Tryz.func220, Tryz.ntmps220
   go_wp2_with fail
   go_end0
   rw [HA.out]
   exact ⟨rfl, h.out.set x⟩
  ·have HA : Hid (askE true x 0 = 0) := by show askE true x 0 = 0; unfold askE; rw [if_neg (by simp)]
   go_enter Tryz.func220, Tryz.ntmps220
   go_wp2_with fail
   go_end0
   rw [HA.out]
   exact ⟨rfl, h⟩
 ·have HA : Hid (askE p x e = e) := by show askE p x e = e; unfold askE; rw [if_neg (fun h => he h.1)]
  have hb : (e == 0) = false := by rw [beq_eq_false_iff_ne]; exact he
  go_enter Tryz.func220, Tryz.ntmps220
  go_wp2_with fail
  go_end0
  rw [HA.out]
  exact ⟨rfl, h⟩
theorem split_three {s : ByteArray} {a b : Nat} (h : posL 32 0 s.data.toList = [a, b]) (hs : s.size ≤ 100000) {mx : Int} (w : World) (hm : w.cell? ⟨0, 0, none⟩ = some (.int .i64 mx)) :
 Calls Tryz.prog 219 #[.string s, .string ⟨#[32]⟩] w fun e w' => e = .returned (.slice (some ⟨w.heap.size, 0, none⟩) 3 3) ∧ w' = w.alloc (.cells #[.string (s.extract 0 a), .string (s.extract (a + 1) b), .string (s.extract (b + 1) s.size)] 9) := by
 have hc : Lib.countB s spS = 2 := by rw [count_pos, h]; rfl
 have h1 := Tryz.strings_Split s spS mx w (by omega) hm (by decide)
 rw [hc, (split_two h).2.2] at h1
 exact h1
theorem split_other {s : ByteArray} (h : (posL 32 0 s.data.toList).length ≠ 2) (hs : s.size ≤ 100000) {mx : Int} (w : World) (hm : w.cell? ⟨0, 0, none⟩ = some (.int .i64 mx)) :
 Calls Tryz.prog 219 #[.string s, .string ⟨#[32]⟩] w fun e w' => ∃ n : Nat, n ≠ 3 ∧ n ≤ 100001 ∧ ∃ cs, e = .returned (.slice (some ⟨w.heap.size, 0, none⟩) n n) ∧ w' = w.alloc (.cells cs 9) := by
 have h1 := Tryz.strings_Split s spS mx w (by omega) hm (by decide)
 refine h1.mono ?_
 rintro e w' ⟨h2, h3⟩
 refine ⟨Lib.countB s spS + 1, ?_, ?_, _, h2, h3⟩
 ·rw [count_pos]; omega
 ·have := Lib.countB_le spS (by decide) s.size s (nR _); omega
theorem reqE {s : ByteArray} {a b : Nat} (h : posL 32 0 s.data.toList = [a, b]) {k f : Int} (hv : vminor (s.extract (b + 1) s.size) = (k, f)) :
 reqRes s = if askE (f == 0) f (askE (visL (s.extract (a + 1) b).data.toList) 11 (askE (tokL (s.extract 0 a).data.toList) 6 0)) = 0 then ((s.extract 0 a, s.extract (a + 1) b, k), 0)
  else ((⟨#[]⟩, ⟨#[]⟩, 0), askE (f == 0) f (askE (visL (s.extract (a + 1) b).data.toList) 11 (askE (tokL (s.extract 0 a).data.toList) 6 0))) := by
 rw [reqRes_two h, hv]
 cases tokL (s.extract 0 a).data.toList <;> cases visL (s.extract (a + 1) b).data.toList <;> by_cases hf : f = 0 <;> simp [askE, hf]
theorem request_other (s : ByteArray) (hs : s.size ≤ 100000) (h : (posL 32 0 s.data.toList).length ≠ 2) {mx : Int} (w : World) (hm : w.cell? ⟨0, 0, none⟩ = some (.int .i64 mx)) :
 Calls Tryz.prog 198 #[.string s] w fun o w' => o = .returned (.tuple #[.agg #[.string ⟨#[]⟩, .string ⟨#[]⟩, .int .i64 0, .int .i64 0, .string ⟨#[]⟩, .slice none 0 0], .int .i64 3]) ∧ Below w.heap.size w w' := by
 have hm1 : (w.alloc (.cells hdZ 34)).cell? ⟨0, 0, none⟩ = some (.int .i64 mx) := by
  rw [World.cell?_alloc_old _ _ _ (Nat.ne_of_lt (World.block_lt_of_cell? _ _ hm))]; exact hm
 have HC := lH (split_other h hs (w.alloc (.cells hdZ 34)) hm1)
 clear h hs hm hm1
 go_enter Tryz.func198, Tryz.ntmps198
 go_wp2_with (go_at_call 219; refine HC.out.mono ?_; rintro e' W2 ⟨n, hn3, hn1, cs, rfl, hw⟩; have n3 : ((n : Int) == 3) = false := (by rw [beq_eq_false_iff_ne]; omega); have n4 : ((n : Int) != 3) = true := (by rw [bne_iff_ne]; omega); have HK : Hid (Blk W2 w.heap.size hdZ 34) := (by show Blk _ _ _ _; rw [hw]; exact (Blk.new _ _ _).alloc _); have HL : Hid (Below w.heap.size w W2) := (by show Below _ _ _; rw [hw]; exact ((Below.refl _ _).alloc (nR _) _).alloc (by simp) _); clear hw hn3; have c0 : W2.cell? ⟨w.heap.size, 0, none⟩ = some (.string ⟨#[]⟩) := HK.out.cell 0; have f0 : W2.frozen? ⟨w.heap.size, 0, none⟩ = false := HK.out.froz 0; have c1 : W2.cell? ⟨w.heap.size, 1, none⟩ = some (.string ⟨#[]⟩) := HK.out.cell 1; have f1 : W2.frozen? ⟨w.heap.size, 1, none⟩ = false := HK.out.froz 1; have c2 : W2.cell? ⟨w.heap.size, 2, none⟩ = some (.int .i64 0) := HK.out.cell 2; have f2 : W2.frozen? ⟨w.heap.size, 2, none⟩ = false := HK.out.froz 2; have c3 : W2.cell? ⟨w.heap.size, 3, none⟩ = some (.int .i64 0) := HK.out.cell 3; have f3 : W2.frozen? ⟨w.heap.size, 3, none⟩ = false := HK.out.froz 3; have c4 : W2.cell? ⟨w.heap.size, 4, none⟩ = some (.string ⟨#[]⟩) := HK.out.cell 4; have f4 : W2.frozen? ⟨w.heap.size, 4, none⟩ = false := HK.out.froz 4; have c5 : W2.cell? ⟨w.heap.size, 5, none⟩ = some (.slice none 0 0) := HK.out.cell 5; have f5 : W2.frozen? ⟨w.heap.size, 5, none⟩ = false := HK.out.froz 5)
 have q := hdW_blk (w := W2) HK.out (⟨#[]⟩) (⟨#[]⟩) (0) 0 ⟨#[]⟩
 have u := hdW_below (w := W2) HL.out (nR _) (⟨#[]⟩) (⟨#[]⟩) (0) 0 ⟨#[]⟩
 obtain ⟨Wf, hWf⟩ : ∃ Wf, Wf = hdW (W2) w.heap.size (⟨#[]⟩) (⟨#[]⟩) (0) 0 ⟨#[]⟩ := ⟨_, rfl⟩
 rw [← hWf] at q u
 have hWf' : ((((((W2).setCell ⟨w.heap.size, 0, none⟩ (.string (⟨#[]⟩))).setCell ⟨w.heap.size, 1, none⟩ (.string (⟨#[]⟩))).setCell ⟨w.heap.size, 2, none⟩ (.int .i64 (0))).setCell ⟨w.heap.size, 3, none⟩ (.int .i64 0)).setCell ⟨w.heap.size, 4, none⟩ (.string ⟨#[]⟩)).setCell ⟨w.heap.size, 5, none⟩ (.slice none 0 0) = Wf := hWf.symm
 rw [hWf']
 obtain ⟨q0, q1, q2, q3, q4, q5⟩ := bc6 q 0 1 2 3 4 5
 simp only [List.getElem?_toArray, List.getElem?_cons_zero, List.getElem?_cons_succ] at q0 q1 q2 q3 q4 q5
 exact bodyPost_ret (v := .tuple #[.agg #[.string (⟨#[]⟩), .string (⟨#[]⟩), .int .i64 (0), .int .i64 0, .string ⟨#[]⟩, .slice none 0 0], .int .i64 (3)]) (by simp [results, Tryz.results198, go_sem, q0, q1, q2, q3, q4, q5]) rfl ⟨rfl, u⟩
theorem request_bad (s : ByteArray) (hs : s.size ≤ 100000) {a b : Nat} (h : posL 32 0 s.data.toList = [a, b]) {M T V : ByteArray} (hM : M = s.extract 0 a) (hT : T = s.extract (a + 1) b) (hV : V = s.extract (b + 1) s.size) {k f e1 e2 e3 : Int} {p1 p2 : Bool} (hk : vminor V = (k, f)) (hp1 : tokL M.data.toList = p1) (hp2 : visL T.data.toList = p2)
 (he1 : askE p1 6 0 = e1) (he2 : askE p2 11 e1 = e2) (he3 : askE (f == 0) f e2 = e3) (hz : e3 ≠ 0) {mx : Int} (w : World) (hm : w.cell? ⟨0, 0, none⟩ = some (.int .i64 mx)) :
 Calls Tryz.prog 198 #[.string s] w fun o w' => o = .returned (.tuple #[.agg #[.string ⟨#[]⟩, .string ⟨#[]⟩, .int .i64 0, .int .i64 0, .string ⟨#[]⟩, .slice none 0 0], .int .i64 e3]) ∧ Below w.heap.size w w' := by
 have hm1 : (w.alloc (.cells hdZ 34)).cell? ⟨0, 0, none⟩ = some (.int .i64 mx) := by
  rw [World.cell?_alloc_old _ _ _ (Nat.ne_of_lt (World.block_lt_of_cell? _ _ hm))]; exact hm
 have HC := split_three h hs (w.alloc (.cells hdZ 34)) hm1
 have hMs : M.size ≤ 9223372036854775807 := by rw [hM]; simp; omega
 have hTs : T.size ≤ 9223372036854775807 := by rw [hT]; simp; omega
 have hVs : V.size ≤ 9223372036854775807 := by rw [hV]; simp; omega
 rw [← hM, ← hT, ← hV] at HC
 have HC := lH HC
 have HT1 : Hid (∀ W : World, Calls Tryz.prog 106 #[.string M] W fun e w' => e = .returned (.bool p1) ∧ Below W.heap.size W w') := fun W => by subst hp1; exact token_any M hMs W
 have HT2 : Hid (∀ W : World, Calls Tryz.prog 109 #[.string T] W fun e w' => e = .returned (.bool p2) ∧ Below W.heap.size W w') := fun W => by subst hp2; exact visible_any T hTs W
 have HT3 : Hid (∀ W : World, Calls Tryz.prog 221 #[.string V] W fun r w' => r = .returned (.tuple #[.int .i64 k, .int .i64 f]) ∧ W = w') := fun W => minor_any V hVs hk W
 have HE1 := lH he1
 have HE2 := lH he2
 have HE3 := lH he3
 have n0 : (e3 == 0) = false := by rw [beq_eq_false_iff_ne]; exact hz
 have n1 : (e3 != 0) = true := by rw [bne_iff_ne]; exact hz
 clear h hs hm hm1 hM hT hV hMs hTs hVs hk hp1 hp2 he1 he2 he3 hz
 go_enter Tryz.func198, Tryz.ntmps198
 go_wp2_with (go_at_call 219; refine HC.out.mono ?_; rintro e' W2 ⟨rfl, hw⟩; have HK : Hid (Blk W2 w.heap.size hdZ 34) := (by show Blk _ _ _ _; rw [hw]; exact (Blk.new _ _ _).alloc _); have HV : Hid (Blk W2 (w.heap.size + 1) #[.string M, .string T, .string V] 9) := (by show Blk _ _ _ _; rw [hw]; exact Blk.new' (by simp)); have HL : Hid (Below w.heap.size w W2) := (by show Below _ _ _; rw [hw]; exact ((Below.refl _ _).alloc (nR _) _).alloc (by simp) _); have hwz : W2.heap.size = w.heap.size + 2 := (by rw [hw]; simp); clear hw; have v0 : W2.cell? ⟨w.heap.size + 1, 0, none⟩ = some (.string M) := HV.out.cell 0; have v1 : W2.cell? ⟨w.heap.size + 1, 1, none⟩ = some (.string T) := HV.out.cell 1)
 go_region
 go_wp2_with (first
  | (go_at_call 106; refine (HT1.out _).mono ?_; rintro e' w3 ⟨rfl, hb⟩; have HI := lH ((reqI0 HK.out HV.out HL.out hwz).call hb); clear hb)
  | (go_at_call 109; refine (HT2.out _).mono ?_; rintro e' w3 ⟨rfl, hb⟩; have HI := lH (HI.out.call hb); clear hb)
  | (go_at_call 221; refine (HT3.out _).mono ?_; rintro e' w3 ⟨rfl, rfl⟩)
  | (go_at_call 220; refine (ask_any (by assumption) _ _).mono ?_; rintro e' w4 ⟨rfl, hI⟩; (try rw [HE1.out] at hI); (try rw [HE2.out] at hI); (try rw [HE3.out] at hI); have HI := lH hI.out; clear hI; have y1 := HI.out.m1; have y2 := HI.out.v2; have y3 := HI.out.x0; have y4 : w4.cell? ⟨w.heap.size + 2, 2, none⟩ = some (.int .i64 0) := HI.out.h.cell 2; have y5 : w4.frozen? ⟨w.heap.size + 2, 2, none⟩ = false := HI.out.h.froz 2))
 obtain ⟨W9, hW9⟩ : ∃ W9, W9 = w4.setCell ⟨w.heap.size + 2, 2, none⟩ (.int .i64 k) := ⟨_, rfl⟩
 have I9 := HI.out.minor k
 rw [← hW9] at I9
 rw [← hW9]
 have J9 := lH I9
 clear I9 hW9
 have c0 : W9.cell? ⟨w.heap.size, 0, none⟩ = some (.string ⟨#[]⟩) := J9.out.z.cell 0
 have f0 : W9.frozen? ⟨w.heap.size, 0, none⟩ = false := J9.out.z.froz 0
 have c1 : W9.cell? ⟨w.heap.size, 1, none⟩ = some (.string ⟨#[]⟩) := J9.out.z.cell 1
 have f1 : W9.frozen? ⟨w.heap.size, 1, none⟩ = false := J9.out.z.froz 1
 have c2 : W9.cell? ⟨w.heap.size, 2, none⟩ = some (.int .i64 0) := J9.out.z.cell 2
 have f2 : W9.frozen? ⟨w.heap.size, 2, none⟩ = false := J9.out.z.froz 2
 have c3 : W9.cell? ⟨w.heap.size, 3, none⟩ = some (.int .i64 0) := J9.out.z.cell 3
 have f3 : W9.frozen? ⟨w.heap.size, 3, none⟩ = false := J9.out.z.froz 3
 have c4 : W9.cell? ⟨w.heap.size, 4, none⟩ = some (.string ⟨#[]⟩) := J9.out.z.cell 4
 have f4 : W9.frozen? ⟨w.heap.size, 4, none⟩ = false := J9.out.z.froz 4
 have c5 : W9.cell? ⟨w.heap.size, 5, none⟩ = some (.slice none 0 0) := J9.out.z.cell 5
 have f5 : W9.frozen? ⟨w.heap.size, 5, none⟩ = false := J9.out.z.froz 5
 have x0 := J9.out.x0
 have h0 : W9.cell? ⟨w.heap.size + 2, 0, none⟩ = some (.string M) := J9.out.h.cell 0
 have h1 : W9.cell? ⟨w.heap.size + 2, 1, none⟩ = some (.string T) := J9.out.h.cell 1
 have h2 : W9.cell? ⟨w.heap.size + 2, 2, none⟩ = some (.int .i64 k) := J9.out.h.cell 2
 have h3 : W9.cell? ⟨w.heap.size + 2, 3, none⟩ = some (.int .i64 0) := J9.out.h.cell 3
 have h4 : W9.cell? ⟨w.heap.size + 2, 4, none⟩ = some (.string ⟨#[]⟩) := J9.out.h.cell 4
 have h5 : W9.cell? ⟨w.heap.size + 2, 5, none⟩ = some (.slice none 0 0) := J9.out.h.cell 5
 go_region
 clear c0 f0 c1 f1 c2 f2 c3 f3 c4 f4 c5 f5
 have c := J9.out
 have q := hdW_blk (w := W9) c.z (⟨#[]⟩) (⟨#[]⟩) (0) 0 ⟨#[]⟩
 have u := hdW_below (w := W9) c.below (nR _) (⟨#[]⟩) (⟨#[]⟩) (0) 0 ⟨#[]⟩
 obtain ⟨Wf, hWf⟩ : ∃ Wf, Wf = hdW (W9) w.heap.size (⟨#[]⟩) (⟨#[]⟩) (0) 0 ⟨#[]⟩ := ⟨_, rfl⟩
 rw [← hWf] at q u
 have hWf' : ((((((W9).setCell ⟨w.heap.size, 0, none⟩ (.string (⟨#[]⟩))).setCell ⟨w.heap.size, 1, none⟩ (.string (⟨#[]⟩))).setCell ⟨w.heap.size, 2, none⟩ (.int .i64 (0))).setCell ⟨w.heap.size, 3, none⟩ (.int .i64 0)).setCell ⟨w.heap.size, 4, none⟩ (.string ⟨#[]⟩)).setCell ⟨w.heap.size, 5, none⟩ (.slice none 0 0) = Wf := hWf.symm
 rw [hWf']
 go_wp2_with fail
 obtain ⟨q0, q1, q2, q3, q4, q5⟩ := bc6 q 0 1 2 3 4 5
 simp only [List.getElem?_toArray, List.getElem?_cons_zero, List.getElem?_cons_succ] at q0 q1 q2 q3 q4 q5
 exact bodyPost_ret (v := .tuple #[.agg #[.string (⟨#[]⟩), .string (⟨#[]⟩), .int .i64 (0), .int .i64 0, .string ⟨#[]⟩, .slice none 0 0], .int .i64 (e3)]) (by simp [results, Tryz.results198, go_sem, q0, q1, q2, q3, q4, q5]) rfl ⟨rfl, u.drew⟩
theorem request_good (s : ByteArray) (hs : s.size ≤ 100000) {a b : Nat} (h : posL 32 0 s.data.toList = [a, b]) {M T V : ByteArray} (hM : M = s.extract 0 a) (hT : T = s.extract (a + 1) b) (hV : V = s.extract (b + 1) s.size) {k f e1 e2 e3 : Int} {p1 p2 : Bool} (hk : vminor V = (k, f)) (hp1 : tokL M.data.toList = p1) (hp2 : visL T.data.toList = p2)
 (he1 : askE p1 6 0 = e1) (he2 : askE p2 11 e1 = e2) (he3 : askE (f == 0) f e2 = e3) (hz : e3 = 0) {mx : Int} (w : World) (hm : w.cell? ⟨0, 0, none⟩ = some (.int .i64 mx)) :
 Calls Tryz.prog 198 #[.string s] w fun o w' => o = .returned (.tuple #[.agg #[.string M, .string T, .int .i64 k, .int .i64 0, .string ⟨#[]⟩, .slice none 0 0], .int .i64 e3]) ∧ Below w.heap.size w w' := by
 have hm1 : (w.alloc (.cells hdZ 34)).cell? ⟨0, 0, none⟩ = some (.int .i64 mx) := by
  rw [World.cell?_alloc_old _ _ _ (Nat.ne_of_lt (World.block_lt_of_cell? _ _ hm))]; exact hm
 have HC := split_three h hs (w.alloc (.cells hdZ 34)) hm1
 have hMs : M.size ≤ 9223372036854775807 := by rw [hM]; simp; omega
 have hTs : T.size ≤ 9223372036854775807 := by rw [hT]; simp; omega
 have hVs : V.size ≤ 9223372036854775807 := by rw [hV]; simp; omega
 rw [← hM, ← hT, ← hV] at HC
 have HC := lH HC
 have HT1 : Hid (∀ W : World, Calls Tryz.prog 106 #[.string M] W fun e w' => e = .returned (.bool p1) ∧ Below W.heap.size W w') := fun W => by subst hp1; exact token_any M hMs W
 have HT2 : Hid (∀ W : World, Calls Tryz.prog 109 #[.string T] W fun e w' => e = .returned (.bool p2) ∧ Below W.heap.size W w') := fun W => by subst hp2; exact visible_any T hTs W
 have HT3 : Hid (∀ W : World, Calls Tryz.prog 221 #[.string V] W fun r w' => r = .returned (.tuple #[.int .i64 k, .int .i64 f]) ∧ W = w') := fun W => minor_any V hVs hk W
 have HE1 := lH he1
 have HE2 := lH he2
 have HE3 := lH he3
 subst hz
 skip
 clear h hs hm hm1 hM hT hV hMs hTs hVs hk hp1 hp2 he1 he2 he3
 go_enter Tryz.func198, Tryz.ntmps198
 go_wp2_with (go_at_call 219; refine HC.out.mono ?_; rintro e' W2 ⟨rfl, hw⟩; have HK : Hid (Blk W2 w.heap.size hdZ 34) := (by show Blk _ _ _ _; rw [hw]; exact (Blk.new _ _ _).alloc _); have HV : Hid (Blk W2 (w.heap.size + 1) #[.string M, .string T, .string V] 9) := (by show Blk _ _ _ _; rw [hw]; exact Blk.new' (by simp)); have HL : Hid (Below w.heap.size w W2) := (by show Below _ _ _; rw [hw]; exact ((Below.refl _ _).alloc (nR _) _).alloc (by simp) _); have hwz : W2.heap.size = w.heap.size + 2 := (by rw [hw]; simp); clear hw; have v0 : W2.cell? ⟨w.heap.size + 1, 0, none⟩ = some (.string M) := HV.out.cell 0; have v1 : W2.cell? ⟨w.heap.size + 1, 1, none⟩ = some (.string T) := HV.out.cell 1)
 go_region
 go_wp2_with (first
  | (go_at_call 106; refine (HT1.out _).mono ?_; rintro e' w3 ⟨rfl, hb⟩; have HI := lH ((reqI0 HK.out HV.out HL.out hwz).call hb); clear hb)
  | (go_at_call 109; refine (HT2.out _).mono ?_; rintro e' w3 ⟨rfl, hb⟩; have HI := lH (HI.out.call hb); clear hb)
  | (go_at_call 221; refine (HT3.out _).mono ?_; rintro e' w3 ⟨rfl, rfl⟩)
  | (go_at_call 220; refine (ask_any (by assumption) _ _).mono ?_; rintro e' w4 ⟨rfl, hI⟩; (try rw [HE1.out] at hI); (try rw [HE2.out] at hI); (try rw [HE3.out] at hI); have HI := lH hI.out; clear hI; have y1 := HI.out.m1; have y2 := HI.out.v2; have y3 := HI.out.x0; have y4 : w4.cell? ⟨w.heap.size + 2, 2, none⟩ = some (.int .i64 0) := HI.out.h.cell 2; have y5 : w4.frozen? ⟨w.heap.size + 2, 2, none⟩ = false := HI.out.h.froz 2))
 obtain ⟨W9, hW9⟩ : ∃ W9, W9 = w4.setCell ⟨w.heap.size + 2, 2, none⟩ (.int .i64 k) := ⟨_, rfl⟩
 have I9 := HI.out.minor k
 rw [← hW9] at I9
 rw [← hW9]
 have J9 := lH I9
 clear I9 hW9
 have c0 : W9.cell? ⟨w.heap.size, 0, none⟩ = some (.string ⟨#[]⟩) := J9.out.z.cell 0
 have f0 : W9.frozen? ⟨w.heap.size, 0, none⟩ = false := J9.out.z.froz 0
 have c1 : W9.cell? ⟨w.heap.size, 1, none⟩ = some (.string ⟨#[]⟩) := J9.out.z.cell 1
 have f1 : W9.frozen? ⟨w.heap.size, 1, none⟩ = false := J9.out.z.froz 1
 have c2 : W9.cell? ⟨w.heap.size, 2, none⟩ = some (.int .i64 0) := J9.out.z.cell 2
 have f2 : W9.frozen? ⟨w.heap.size, 2, none⟩ = false := J9.out.z.froz 2
 have c3 : W9.cell? ⟨w.heap.size, 3, none⟩ = some (.int .i64 0) := J9.out.z.cell 3
 have f3 : W9.frozen? ⟨w.heap.size, 3, none⟩ = false := J9.out.z.froz 3
 have c4 : W9.cell? ⟨w.heap.size, 4, none⟩ = some (.string ⟨#[]⟩) := J9.out.z.cell 4
 have f4 : W9.frozen? ⟨w.heap.size, 4, none⟩ = false := J9.out.z.froz 4
 have c5 : W9.cell? ⟨w.heap.size, 5, none⟩ = some (.slice none 0 0) := J9.out.z.cell 5
 have f5 : W9.frozen? ⟨w.heap.size, 5, none⟩ = false := J9.out.z.froz 5
 have x0 := J9.out.x0
 have h0 : W9.cell? ⟨w.heap.size + 2, 0, none⟩ = some (.string M) := J9.out.h.cell 0
 have h1 : W9.cell? ⟨w.heap.size + 2, 1, none⟩ = some (.string T) := J9.out.h.cell 1
 have h2 : W9.cell? ⟨w.heap.size + 2, 2, none⟩ = some (.int .i64 k) := J9.out.h.cell 2
 have h3 : W9.cell? ⟨w.heap.size + 2, 3, none⟩ = some (.int .i64 0) := J9.out.h.cell 3
 have h4 : W9.cell? ⟨w.heap.size + 2, 4, none⟩ = some (.string ⟨#[]⟩) := J9.out.h.cell 4
 have h5 : W9.cell? ⟨w.heap.size + 2, 5, none⟩ = some (.slice none 0 0) := J9.out.h.cell 5
 go_region
 clear c0 f0 c1 f1 c2 f2 c3 f3 c4 f4 c5 f5
 have c := J9.out
 have q := hdW_blk (w := W9) c.z (M) (T) (k) 0 ⟨#[]⟩
 have u := hdW_below (w := W9) c.below (nR _) (M) (T) (k) 0 ⟨#[]⟩
 obtain ⟨Wf, hWf⟩ : ∃ Wf, Wf = hdW (W9) w.heap.size (M) (T) (k) 0 ⟨#[]⟩ := ⟨_, rfl⟩
 rw [← hWf] at q u
 have hWf' : ((((((W9).setCell ⟨w.heap.size, 0, none⟩ (.string (M))).setCell ⟨w.heap.size, 1, none⟩ (.string (T))).setCell ⟨w.heap.size, 2, none⟩ (.int .i64 (k))).setCell ⟨w.heap.size, 3, none⟩ (.int .i64 0)).setCell ⟨w.heap.size, 4, none⟩ (.string ⟨#[]⟩)).setCell ⟨w.heap.size, 5, none⟩ (.slice none 0 0) = Wf := hWf.symm
 rw [hWf']
 go_wp2_with fail
 obtain ⟨q0, q1, q2, q3, q4, q5⟩ := bc6 q 0 1 2 3 4 5
 simp only [List.getElem?_toArray, List.getElem?_cons_zero, List.getElem?_cons_succ] at q0 q1 q2 q3 q4 q5
 exact bodyPost_ret (v := .tuple #[.agg #[.string (M), .string (T), .int .i64 (k), .int .i64 0, .string ⟨#[]⟩, .slice none 0 0], .int .i64 (0)]) (by simp [results, Tryz.results198, go_sem, q0, q1, q2, q3, q4, q5]) rfl ⟨rfl, u.drew⟩
end Go.Proofs.YtaojfiegnebbdaaGreatDoor
-- StartLaw
namespace Go.Proofs.YtaojfiegnebbdaaGreatDoor
open Go.RowKit
theorem request_any (s : ByteArray) (hs : s.size ≤ 100000) {m t : ByteArray} {k e : Int} (hr : reqRes s = ((m, t, k), e)) {mx : Int} (w : World) (hm : w.cell? ⟨0, 0, none⟩ = some (.int .i64 mx)) :
 Calls Tryz.prog 198 #[.string s] w fun o w' => o = .returned (.tuple #[.agg #[.string m, .string t, .int .i64 k, .int .i64 0, .string ⟨#[]⟩, .slice none 0 0], .int .i64 e]) ∧ Below w.heap.size w w' := by
 by_cases h2 : (posL 32 0 s.data.toList).length = 2
 rotate_left
 ·rw [reqRes_form h2] at hr
  obtain ⟨⟨rfl, rfl, rfl⟩, rfl⟩ : (⟨#[]⟩ = m ∧ ⟨#[]⟩ = t ∧ 0 = k) ∧ 3 = e := by simpa using hr
  exact request_other s hs h2 w hm
 obtain ⟨a, b, hab⟩ : ∃ a b, posL 32 0 s.data.toList = [a, b] := by
  match hq : posL 32 0 s.data.toList, h2 with
  | [a, b], _ => exact ⟨a, b, rfl⟩
 obtain ⟨k', f, hk⟩ : ∃ k' f, vminor (s.extract (b + 1) s.size) = (k', f) := ⟨_, _, rfl⟩
 rw [reqE hab hk] at hr
 by_cases hz : askE (f == 0) f (askE (visL (s.extract (a + 1) b).data.toList) 11 (askE (tokL (s.extract 0 a).data.toList) 6 0)) = 0
 ·rw [if_pos hz] at hr
  obtain ⟨⟨rfl, rfl, rfl⟩, rfl⟩ : (s.extract 0 a = m ∧ s.extract (a + 1) b = t ∧ k' = k) ∧ 0 = e := by simpa using hr
  have := request_good s hs hab rfl rfl rfl hk rfl rfl rfl rfl rfl hz w hm
  rw [hz] at this
  exact this
 ·rw [if_neg hz] at hr
  obtain ⟨h1, rfl⟩ := Prod.mk.inj hr
  obtain ⟨rfl, h2⟩ := Prod.mk.inj h1
  obtain ⟨rfl, rfl⟩ := Prod.mk.inj h2
  exact request_bad s hs hab rfl rfl rfl hk rfl rfl rfl rfl rfl hz w hm
end Go.Proofs.YtaojfiegnebbdaaGreatDoor
/- A parser of heads, by octets: lines, what it holds, its methods; in plain words and walked. -/
import Derived.Test.YtmoofcmmpemdcaaGreatDoorRHParse
import Derived.Test.YtmoofcmmpemdcaaGreatDoorFig
import Derived.Lib.BufferRead
import Derived.Test.YtmoofcmmpemdcaaGreatDoorHeld
import Derived.Lib.LazyBuf
set_option linter.unusedSimpArgs false
set_option linter.unusedVariables false
namespace Go.Proofs.YtmoofcmmpemdcaaGreatDoor
open Go.RowKit
def few22 (l : List ByteArray) : Bool := decide (l.length ≤ 60) && l.all fun s => decide (s.size ≤ 300)
/-- head.Parse, for any kind and lines. -/
theorem hparse_any (kind a fields c d fold : Int) (hfi : -9223372036854775808 ≤ fields ∧ fields ≤ 9223372036854775807) (v : Value) (hcap : CapOk v) (l : List ByteArray) (w : World) {mx : Int} (hm : w.cell? ⟨0, 0, none⟩ = some (.int .i64 mx)) (hS : Strs w v l) (hn : l.length ≤ 100000) (ht : tot l ≤ 100000) :
    Calls Tryz.prog 123 #[.int .i64 kind, .agg #[.int .i64 a, .int .i64 fields, .int .i64 c, .int .i64 d, .int .i64 fold], v] w fun e w' => ∃ f, e = .returned (.tuple #[.agg ((headP kind fields fold l).1.row f), .int .i64 (headP kind fields fold l).2]) ∧ OwnF w' w.heap.size f (headP kind fields fold l).1.fs ∧ Below w.heap.size w w' := by
  by_cases h12 : kind = 1 ∨ kind = 2
  · cases l with
    | nil =>
      obtain ⟨p, cc, rfl, _⟩ := hS
      refine (hparse_end kind a fields c d fold h12 p cc w).mono ?_
      rintro e w' ⟨rfl, hb⟩
      have hP : headP kind fields fold [] = (hd0, 2) := by unfold headP; rw [if_neg (by omega)]
      exact ⟨nilS, by rw [hP], by rw [hP]; exact OwnF.start _ _, hb⟩
    | cons s rest =>
      obtain ⟨p, cc, rfl, hc⟩ := hS
      obtain ⟨b, off, rfl, _⟩ := hc 0 (by simp)
      have hS : Strs w (.slice (some ⟨b, off, none⟩) (s :: rest).length cc) (s :: rest) := ⟨_, _, rfl, hc⟩
      have hl : (s :: rest).length = rest.length + 1 := rfl
      rw [hl] at hS hn ⊢
      have hcap : rest.length + 1 ≤ cc := hcap
      rcases h12 with rfl | rfl
      · exact hparse_go1 a fields c d fold hfi b off rest.length cc s rest w hm hS hcap (by omega) ht
      · exact hparse_go2 a fields c d fold hfi b off rest.length cc s rest w hm hS hcap (by omega) ht
  · have hP : headP kind fields fold l = (hd0, 1) := by unfold headP; rw [if_pos ⟨fun e => h12 (Or.inl e), fun e => h12 (Or.inr e)⟩]
    refine (hparse_arg kind a fields c d fold (fun e => h12 (Or.inl e)) (fun e => h12 (Or.inr e)) v w).mono ?_
    rintro e w' ⟨rfl, hb⟩
    exact ⟨nilS, by rw [hP], by rw [hP]; exact OwnF.start _ _, hb⟩
/-- The reference's. -/
theorem rhparse_any (kind a fields c d fold : Int) (v : Value) (hcap : CapOk v) (l : List ByteArray) (w : World) (hS : Strs w v l) (hn : l.length ≤ 100000) (ht : tot l ≤ 100000) :
    Calls Tryz.prog 54 #[.int .i64 kind, .agg #[.int .i64 a, .int .i64 fields, .int .i64 c, .int .i64 d, .int .i64 fold], v] w fun e w' => ∃ f, e = .returned (.tuple #[.agg ((headP kind fields fold l).1.row f), .int .i64 (headP kind fields fold l).2]) ∧ OwnF w' w.heap.size f (headP kind fields fold l).1.fs ∧ Below w.heap.size w w' := by
  by_cases h12 : kind = 1 ∨ kind = 2
  · cases l with
    | nil =>
      obtain ⟨p, cc, rfl, _⟩ := hS
      refine (rhparse_end kind a fields c d fold h12 p cc w).mono ?_
      rintro e w' ⟨rfl, hb⟩
      have hP : headP kind fields fold [] = (hd0, 2) := by unfold headP; rw [if_neg (by omega)]
      exact ⟨nilS, by rw [hP], by rw [hP]; exact OwnF.start _ _, hb⟩
    | cons s rest =>
      obtain ⟨p, cc, rfl, hc⟩ := hS
      obtain ⟨b, off, rfl, _⟩ := hc 0 (by simp)
      have hS : Strs w (.slice (some ⟨b, off, none⟩) (s :: rest).length cc) (s :: rest) := ⟨_, _, rfl, hc⟩
      have hl : (s :: rest).length = rest.length + 1 := rfl
      rw [hl] at hS hn ⊢
      have hcap : rest.length + 1 ≤ cc := hcap
      rcases h12 with rfl | rfl
      · exact rhparse_go1 a fields c d fold b off rest.length cc s rest w hS hcap (by omega) ht
      · exact rhparse_go2 a fields c d fold b off rest.length cc s rest w hS hcap (by omega) ht
  · have hP : headP kind fields fold l = (hd0, 1) := by unfold headP; rw [if_pos ⟨fun e => h12 (Or.inl e), fun e => h12 (Or.inr e)⟩]
    refine (rhparse_arg kind a fields c d fold (fun e => h12 (Or.inl e)) (fun e => h12 (Or.inr e)) v w).mono ?_
    rintro e w' ⟨rfl, hb⟩
    exact ⟨nilS, by rw [hP], by rw [hP]; exact OwnF.start _ _, hb⟩
end Go.Proofs.YtmoofcmmpemdcaaGreatDoor
namespace Go.Proofs.YtmoofcmmpemdcaaGreatDoor
open Go.RowKit
/-- Row B: the call's own octets. -/
def OwnB (w : World) (B : Nat) (v : Value) (l : List UInt8) : Prop := w.ownsRow B 5 1 v l.length (l.map fun b => Value.int .u8 b.toNat)
theorem OwnB.start (w : World) (B : Nat) : OwnB w B (.slice none 0 0) [] := World.ownsRow_nil _ _ _ _
theorem own_touch {P : Nat → Prop} {w w1 : World} {B : Nat} {e : TypeId} {size : Nat} {v : Value} {n : Nat} {xs : List Value} (h : w.ownsRow B e size v n xs) (ht : Touch P w w1) (hP : ∀ g, v.ownBlock = some g → ¬ P g) : w1.ownsRow B e size v n xs := by
  obtain ⟨h1, h2⟩ := h
  refine ⟨h1, ?_⟩
  rcases h2 with h2 | ⟨g, cap, cur, rfl, hB, hg, rest⟩
  · exact Or.inl h2
  · exact Or.inr ⟨g, cap, cur, rfl, hB, (ht.block g ((Array.getElem?_eq_some_iff.1 hg).1) (hP g rfl)).trans hg, rest⟩
theorem info_byte : (Tryz.prog.info? 5).map (fun i => (i.zero, i.size, i.bytes)) = some (some (.int .u8 0), 1, 1) := by kernel_rfl
/-- One octet more behind the row; where the row lies. -/
theorem wpList_push_byte {ops : Array Oper} {rest : List Oper} {o : Oper} {a : Act} {Q : Exit → Act → World → Prop} (hgd : o.guard = none) (s x : Operand)
    (ho : o.op = .call { callee := .builtin .append, args := #[s, x], argTypes := #[100, 100] }) {w : World} {B : Nat} {v : Value} {l : List UInt8} (hs : a.eval s = v) (hown : OwnB w B v l) (y : UInt8) (yi : Int) (hyi : yi = y.toNat)
    (hx : a.eval x = .slice (some ⟨w.heap.size, 0, none⟩) 1 1) (hl : l.length ≤ 1000000) (hB : B ≤ w.heap.size)
    (h : ∀ g c w1, OwnB w1 B (.slice (some ⟨g, 0, none⟩) (l.length + 1) c) (l ++ [y]) → Touch (fun j => v.ownBlock = some j) w w1 → (v.ownBlock = some g ∨ w.heap.size ≤ g) → wpList Tryz.prog ops Q rest (a.put o.dst (.slice (some ⟨g, 0, none⟩) (l.length + 1) c)) w1) :
    wpList Tryz.prog ops Q (o :: rest) a (w.alloc (.cells #[.int .u8 yi] 5)) := by
  subst hyi
  obtain ⟨i0, hi, hz0, hz1, hz2⟩ := info_parts info_byte
  have hown' : World.ownsRow (w.alloc (.cells #[.int .u8 y.toNat] 5)) B 5 1 v l.length (l.map fun b => Value.int .u8 b.toNat) := World.ownsRow.alloc hown _
  refine wpList_append_lies _ hgd s x 100 ho B 5 i0 _ 1 1 Tryz.underlying100 hi hz0 hz1 hz2 rfl (by decide) v l.length _ hs hown' ⟨w.heap.size, 0, none⟩ 1 1 [.int .u8 y.toNat] hx rfl ?c1 ?c2 (by decide) ?c3 ?c4 ?c5 _ rfl ?_
  case c1 => exact World.news_of_block (cs := #[.int .u8 y.toNat]) (t := 5) (fr := (0, 0)) (heap_alloc_new w _)
  case c2 => simp [Value.oneCell']
  case c3 => unfold maxLen; omega
  case c4 => omega
  case c5 => simp; omega
  intro g c w1 hown1 hg hat _
  refine h g c w1 ?_ ?_ ?_
  · show w1.ownsRow B 5 1 _ (l ++ [y]).length _
    rw [List.length_append, List.map_append]
    exact hown1
  · refine ((Touch.refl _ w).alloc (.cells #[.int .u8 y.toNat] 5)).trans ⟨hg.os, hg.tape, hg.output, hg.size, fun k hk hne => hg.block k hk (fun e => hne e.symm)⟩
  · rcases hat with h1 | h1
    · exact Or.inl h1
    · right; rw [h1]; simp
theorem wpList_push_strs {ops : Array Oper} {rest : List Oper} {o : Oper} {a : Act} {Q : Exit → Act → World → Prop} (hgd : o.guard = none) (s x : Operand)
    (ho : o.op = .call { callee := .builtin .append, args := #[s, x], argTypes := #[37, 37] }) {w : World} {B : Nat} {v : Value} {l : List ByteArray} (hs : a.eval s = v) (hown : OwnS w B v l) (y : ByteArray)
    (hx : a.eval x = .slice (some ⟨w.heap.size, 0, none⟩) 1 1) (hl : l.length ≤ 1000000) (hB : B ≤ w.heap.size)
    (h : ∀ g c w1, OwnS w1 B (.slice (some ⟨g, 0, none⟩) (l.length + 1) c) (l ++ [y]) → Touch (fun j => v.ownBlock = some j) w w1 → (v.ownBlock = some g ∨ w.heap.size ≤ g) → wpList Tryz.prog ops Q rest (a.put o.dst (.slice (some ⟨g, 0, none⟩) (l.length + 1) c)) w1) :
    wpList Tryz.prog ops Q (o :: rest) a (w.alloc (.cells #[.string y] 9)) := by
  obtain ⟨i0, hi, hz0, hz1, hz2⟩ := info_parts info_str
  have hown' : World.ownsRow (w.alloc (.cells #[.string y] 9)) B 9 1 v l.length (l.map Value.string) := World.ownsRow.alloc hown _
  refine wpList_append_lies _ hgd s x 37 ho B 9 i0 _ 1 16 Tryz.underlying37 hi hz0 hz1 hz2 rfl (by decide) v l.length _ hs hown' ⟨w.heap.size, 0, none⟩ 1 1 [.string y] hx rfl ?c1 ?c2 (by decide) ?c3 ?c4 ?c5 _ rfl ?_
  case c1 => exact World.news_of_block (cs := #[.string y]) (t := 9) (fr := (0, 0)) (heap_alloc_new w _)
  case c2 => simp [Value.oneCell']
  case c3 => unfold maxLen; omega
  case c4 => omega
  case c5 => simp; omega
  intro g c w1 hown1 hg hat _
  refine h g c w1 ?_ ?_ ?_
  · show w1.ownsRow B 9 1 _ (l ++ [y]).length _
    rw [List.length_append, List.map_append]
    exact hown1
  · refine ((Touch.refl _ w).alloc (.cells #[.string y] 9)).trans ⟨hg.os, hg.tape, hg.output, hg.size, fun k hk hne => hg.block k hk (fun e => hne e.symm)⟩
  · rcases hat with h1 | h1
    · exact Or.inl h1
    · right; rw [h1]; simp
/-- What Lines holds. -/
structure LnS where
  left : Int
  spent : Int
  line : List UInt8
  within : Bool
  turn : Bool
  whole : Bool
  e : Int
def LnS.row (s : LnS) (v : Value) : Array Value := #[.int .i64 s.left, .int .i64 s.spent, v, .bool s.within, .bool s.turn, .bool s.whole, .int .i64 s.e]
structure LnAt (w : World) (g B : Nat) (v : Value) (s : LnS) : Prop where
  b : Blk w g (s.row v) 142
  o : OwnB w B v s.line
  lt : g < B
  sz : B ≤ w.heap.size
/-- What see does, and answers. -/
def seeP (s : LnS) (c : UInt8) : LnS × Int :=
  if s.left = 0 then (s, 4) else if s.turn ≠ decide (c = 10) then (s, 8)
  else if c = 13 then ({ s with turn := true, left := s.left - 1, spent := s.spent + 1, within := !s.whole }, 0)
  else if c = 10 then ({ s with turn := false, whole := true, left := s.left - 1, spent := s.spent + 1, within := false }, 0)
  else ({ s with line := s.line ++ [c], left := s.left - 1, spent := s.spent + 1, within := !s.whole }, 0)
end Go.Proofs.YtmoofcmmpemdcaaGreatDoor
namespace Go.Proofs.YtmoofcmmpemdcaaGreatDoor
open Go.RowKit
/-- Octets as a text. -/
def strL (l : List UInt8) : ByteArray := ⟨l.toArray⟩
theorem strL_nil (l : List UInt8) : (strL l).size = 0 ↔ l = [] := by
  unfold strL
  show l.toArray.size = 0 ↔ _
  simp
theorem strL_size (l : List UInt8) : (strL l).size = l.length := by
  unfold strL
  show l.toArray.size = _
  simp
/-- What Lines takes of these octets. -/
def lnFeed : List UInt8 → LnS → LnS × Nat
  | [], s => (s, 0)
  | c :: r, s => if s.whole = true ∨ s.e ≠ 0 then (s, 0)
    else if (seeP s c).2 = 0 then ((lnFeed r { (seeP s c).1 with e := 0 }).1, (lnFeed r { (seeP s c).1 with e := 0 }).2 + 1)
    else ({ (seeP s c).1 with e := (seeP s c).2 }, 0)
/-- What a parser holds. -/
structure PaS where
  ln : LnS
  all : List ByteArray
  fin : Bool
  hd : Hd
  e : Int
/-- A line that is whole. -/
def lineP (kind fields fold : Int) (p : PaS) (s : ByteArray) : PaS :=
  if s.size ≠ 0 then { p with all := p.all ++ [s] }
  else if p.all ≠ [] ∨ kind = 2 then { p with fin := true, hd := (headP kind fields fold p.all).1, e := (headP kind fields fold p.all).2 } else p
/-- What stands behind an octet that was taken. -/
def pTake (kind fields fold : Int) (p : PaS) (s : LnS) : PaS :=
  if s.whole = true then lineP kind fields fold { p with ln := { s with line := [], whole := false, e := 0 }, e := 0 } (strL s.line) else { p with ln := { s with e := 0 }, e := 0 }
/-- What a parser comes to, octet by octet; how many are used. -/
def pRun (kind fields fold : Int) : List UInt8 → PaS → PaS × Nat
  | [], p => (p, 0)
  | c :: r, p => if p.fin = true ∨ p.e ≠ 0 then (p, 0)
    else if (seeP p.ln c).2 = 0 then ((pRun kind fields fold r (pTake kind fields fold p (seeP p.ln c).1)).1, (pRun kind fields fold r (pTake kind fields fold p (seeP p.ln c).1)).2 + 1)
    else ({ p with ln := { (seeP p.ln c).1 with e := (seeP p.ln c).2 }, e := (seeP p.ln c).2 }, 0)
/-- One turn of Feed's loop. -/
def pIter (kind fields fold : Int) (l : List UInt8) (p : PaS) : PaS :=
  if (lnFeed l p.ln).1.whole = true then lineP kind fields fold { p with ln := { (lnFeed l p.ln).1 with line := [], whole := false }, e := (lnFeed l p.ln).1.e } (strL (lnFeed l p.ln).1.line)
  else { p with ln := (lnFeed l p.ln).1, e := (lnFeed l p.ln).1.e }
theorem lnFeed_le : ∀ (l : List UInt8) (s : LnS), (lnFeed l s).2 ≤ l.length
  | [], s => Nat.le_refl _
  | c :: r, s => by
    rw [lnFeed]
    split
    · exact Nat.zero_le _
    split
    · simpa using lnFeed_le r _
    · exact Nat.zero_le _
theorem lnFeed_stop (l : List UInt8) (s : LnS) (h : s.whole = true ∨ s.e ≠ 0) : lnFeed l s = (s, 0) := by
  cases l with
  | nil => rfl
  | cons c r => rw [lnFeed, if_pos h]
theorem seeP_e (s : LnS) (c : UInt8) : (seeP s c).1.e = s.e := by
  unfold seeP
  repeat' split
  all_goals rfl
theorem lnS_e (s : LnS) (h : s.e = 0) : { s with e := 0 } = s := by
  obtain ⟨a, b, c, d, e, f, g⟩ := s
  simp only at h
  subst h
  rfl
theorem pRun_stop (kind fields fold : Int) (l : List UInt8) (p : PaS) (h : p.fin = true ∨ p.e ≠ 0) : pRun kind fields fold l p = (p, 0) := by
  cases l with
  | nil => rfl
  | cons c r => rw [pRun, if_pos h]
/-- A turn of the loop is so many octets. -/
theorem pRun_iter (kind fields fold : Int) : ∀ (l : List UInt8) (p : PaS), p.fin = false → p.e = 0 → p.ln.e = 0 → p.ln.whole = false → l ≠ [] →
    pRun kind fields fold l p = ((pRun kind fields fold (l.drop (lnFeed l p.ln).2) (pIter kind fields fold l p)).1, (lnFeed l p.ln).2 + (pRun kind fields fold (l.drop (lnFeed l p.ln).2) (pIter kind fields fold l p)).2)
  | [], p, _, _, _, _, h => absurd rfl h
  | c :: r, p, h1, h2, h3, h4, _ => by
    have n1 : ¬ (p.fin = true ∨ p.e ≠ 0) := by rw [h1, h2]; simp
    have n2 : ¬ (p.ln.whole = true ∨ p.ln.e ≠ 0) := by rw [h3, h4]; simp
    rw [pRun, if_neg n1]
    unfold pIter
    rw [lnFeed, if_neg n2]
    by_cases hs : (seeP p.ln c).2 = 0
    · rw [if_pos hs, if_pos hs]
      obtain ⟨S, hS⟩ : ∃ S, S = (seeP p.ln c).1 := ⟨_, rfl⟩
      have hSe : S.e = 0 := by rw [hS, seeP_e, h3]
      rw [← hS]
      rw [lnS_e S hSe]
      cases hw : S.whole with
      | true =>
        rw [lnFeed_stop r S (Or.inl hw)]
        simp only [hw, if_true, List.drop_succ_cons, List.drop_zero, Nat.zero_add]
        have : pTake kind fields fold p S = lineP kind fields fold { p with ln := { S with line := [], whole := false }, e := S.e } (strL S.line) := by
          unfold pTake
          rw [if_pos hw, hSe]
        rw [this, Nat.add_comm]
      | false =>
        have ht : pTake kind fields fold p S = { p with ln := S, e := 0 } := by
          unfold pTake
          rw [if_neg (by rw [hw]; decide), lnS_e S hSe]
        rw [ht]
        simp only [List.drop_succ_cons]
        by_cases hr : r = []
        · subst hr
          rw [lnFeed, hw]
          simp only [Bool.false_eq_true, if_false]
          rw [hSe]
          simp [pRun]
        · have ih := pRun_iter kind fields fold r { p with ln := S, e := 0 } h1 rfl hSe hw hr
          rw [ih]
          unfold pIter
          simp only
          congr 1
          omega
    · rw [if_neg hs, if_neg hs]
      have hSe : (seeP p.ln c).1.whole = false := by
        revert hs
        unfold seeP
        repeat' split
        all_goals first
          | (intro _; exact h4)
          | (intro hs; exact absurd rfl hs)
      simp only [hSe, Bool.false_eq_true, if_false, List.drop_zero, Nat.zero_add]
      rw [pRun_stop]
      exact Or.inr hs
theorem pRun_le (kind fields fold : Int) : ∀ (l : List UInt8) (p : PaS), (pRun kind fields fold l p).2 ≤ l.length
  | [], p => Nat.le_refl _
  | c :: r, p => by
    rw [pRun]
    split
    · exact Nat.zero_le _
    split
    · simpa using pRun_le kind fields fold r _
    · exact Nat.zero_le _
/-- Texts, one behind the other. -/
theorem pRun_append (kind fields fold : Int) : ∀ (a b : List UInt8) (p : PaS), pRun kind fields fold (a ++ b) p =
    if (pRun kind fields fold a p).2 = a.length then ((pRun kind fields fold b (pRun kind fields fold a p).1).1, a.length + (pRun kind fields fold b (pRun kind fields fold a p).1).2) else pRun kind fields fold a p
  | [], b, p => by simp [pRun]
  | c :: r, b, p => by
    rw [List.cons_append, pRun, pRun]
    by_cases h1 : p.fin = true ∨ p.e ≠ 0
    · rw [if_pos h1, if_pos h1, if_neg (by simp)]
    rw [if_neg h1, if_neg h1]
    by_cases h2 : (seeP p.ln c).2 = 0
    · rw [if_pos h2, if_pos h2, pRun_append kind fields fold r b]
      simp only [List.length_cons]
      by_cases h3 : (pRun kind fields fold r (pTake kind fields fold p (seeP p.ln c).1)).2 = r.length
      · rw [if_pos h3, if_pos (by omega)]
        simp only
        congr 1
        omega
      · rw [if_neg h3, if_neg (by omega)]
    · rw [if_neg h2, if_neg h2, if_neg (by simp)]
/-- What the reference's Read of lines answers, from here on. -/
def rdL (most : Int) : List UInt8 → Nat → List UInt8 → Bool → List (List UInt8) × Bool × Nat × Int
  | [], i, cur, turn => ([], !cur.isEmpty || turn, i, 0)
  | c :: r, i, cur, turn => if (i : Int) = most then ([], !cur.isEmpty || turn, i, 4)
    else if turn ≠ decide (c = 10) then ([], !cur.isEmpty || turn, i, 8)
    else if c = 13 then rdL most r (i + 1) cur true
    else if c = 10 then (cur :: (rdL most r (i + 1) [] false).1, (rdL most r (i + 1) [] false).2)
    else rdL most r (i + 1) (cur ++ [c]) false
/-- What the reference makes of lines. -/
def scanP (kind fields fold : Int) : List (List UInt8) → Nat → List ByteArray → Option ((Hd × Int) × Nat) × List ByteArray
  | [], _, got => (none, got)
  | l :: r, at_, got => if l ≠ [] then scanP kind fields fold r (at_ + l.length + 2) (got ++ [strL l])
    else if got ≠ [] ∨ kind = 2 then (some (headP kind fields fold got, at_ + 2), got) else scanP kind fields fold r (at_ + 2) got
/-- The parser and the reference's reading agree. -/
def RdOk (P : PaS × Nat) (q : Bool × Nat × Int) (z : Option ((Hd × Int) × Nat) × List ByteArray) (i : Nat) (hd : Hd) : Prop :=
  match z with
  | (some (h, used), _) => P.1.fin = true ∧ P.1.hd = h.1 ∧ P.1.e = h.2 ∧ i + P.2 = used
  | (none, all) => P.1.fin = false ∧ P.1.all = all ∧ P.1.e = q.2.2 ∧ P.1.hd = hd ∧ i + P.2 = q.2.1 ∧ P.1.ln.within = q.1
theorem RdOk.step {P : PaS × Nat} {q : Bool × Nat × Int} {z : Option ((Hd × Int) × Nat) × List ByteArray} {i : Nat} {hd : Hd} (h : RdOk P q z (i + 1) hd) : RdOk (P.1, P.2 + 1) q z i hd := by
  obtain ⟨z1, z2⟩ := z
  cases z1 with
  | none =>
    obtain ⟨a, b, c, d, e, f⟩ := h
    exact ⟨a, b, c, d, by rw [← e]; show i + (P.2 + 1) = i + 1 + P.2; omega, f⟩
  | some hu =>
    obtain ⟨h1, used⟩ := hu
    obtain ⟨a, b, c, d⟩ := h
    exact ⟨a, b, c, by rw [← d]; show i + (P.2 + 1) = i + 1 + P.2; omega⟩
theorem pRun_rd (kind fields fold most : Int) : ∀ (l : List UInt8) (i at_ : Nat) (sp : Int) (cur : List UInt8) (turn : Bool) (all : List ByteArray) (hd : Hd),
    at_ + cur.length + (if turn = true then 1 else 0) = i →
    RdOk (pRun kind fields fold l ⟨⟨most - i, sp, cur, !cur.isEmpty || turn, turn, false, 0⟩, all, false, hd, 0⟩) (rdL most l i cur turn).2 (scanP kind fields fold (rdL most l i cur turn).1 at_ all) i hd
  | [], i, at_, sp, cur, turn, all, hd, hi => by
    simp [pRun, rdL, scanP, RdOk]
  | c :: r, i, at_, sp, cur, turn, all, hd, hi => by
    rw [pRun, if_neg (by simp), rdL]
    unfold seeP
    simp only
    by_cases h1 : (i : Int) = most
    · rw [if_pos (by omega : most - (i : Int) = 0), if_pos h1]
      simp [scanP, RdOk]
    rw [if_neg (by omega : ¬ most - (i : Int) = 0), if_neg h1]
    by_cases h2 : turn ≠ decide (c = 10)
    · rw [if_pos h2, if_pos h2, if_neg (show ¬ (8 : Int) = 0 by decide)]
      simp [scanP, RdOk]
    rw [if_neg h2, if_neg h2]
    have hl : most - (i : Int) - 1 = most - ((i + 1 : Nat) : Int) := by omega
    by_cases h3 : c = 13
    · rw [if_pos h3, if_pos h3, if_pos rfl]
      unfold pTake
      simp only [Bool.false_eq_true, if_false, hl]
      have ht : turn = false := by
        have := Decidable.not_not.1 h2
        rw [this, h3]
        rfl
      have ih := pRun_rd kind fields fold most r (i + 1) at_ (sp + 1) cur true all hd (by rw [ht] at hi; simp at hi ⊢; omega)
      simp only [Bool.or_true] at ih
      exact ih.step
    rw [if_neg h3, if_neg h3]
    by_cases h4 : c = 10
    · rw [if_pos h4, if_pos h4, if_pos rfl]
      have ht : turn = true := by
        have := Decidable.not_not.1 h2
        rw [this, h4]
        rfl
      rw [ht, if_pos rfl] at hi
      unfold pTake
      simp only [if_true, hl]
      unfold lineP
      simp only [ne_eq, strL_nil]
      rw [scanP]
      by_cases h5 : cur = []
      · subst h5
        simp only [not_true, if_false, ne_eq]
        by_cases h6 : ¬ all = [] ∨ kind = 2
        · rw [if_pos h6, if_pos h6, pRun_stop _ _ _ _ _ (Or.inl rfl)]
          simp at hi
          exact ⟨rfl, rfl, rfl, by show i + (0 + 1) = at_ + 2; omega⟩
        · rw [if_neg h6, if_neg h6]
          have ih := pRun_rd kind fields fold most r (i + 1) (at_ + 2) (sp + 1) [] false all hd (by simp at hi ⊢; omega)
          exact ih.step
      · rw [if_pos h5, if_pos h5]
        have ih := pRun_rd kind fields fold most r (i + 1) (at_ + cur.length + 2) (sp + 1) [] false (all ++ [strL cur]) hd (by simp; omega)
        exact ih.step
    · rw [if_neg h4, if_neg h4, if_pos rfl]
      have ht : turn = false := by
        have := Decidable.not_not.1 h2
        rw [this]
        exact decide_eq_false h4
      subst ht
      unfold pTake
      simp only [Bool.false_eq_true, if_false, hl, Bool.not_false]
      have ih := pRun_rd kind fields fold most r (i + 1) at_ (sp + 1) (cur ++ [c]) false all hd (by simp at hi ⊢; omega)
      have he : (!(cur ++ [c]).isEmpty || false) = true := by simp
      rw [he] at ih
      exact ih.step
/-- How much a parser may hold. -/
structure PaOk (p : PaS) : Prop where
  l0 : 0 ≤ p.ln.left
  s0 : 0 ≤ p.ln.spent
  m : p.ln.left + p.ln.spent ≤ 65536
  t : (p.ln.line.length + tot p.all + p.all.length : Int) ≤ p.ln.spent
end Go.Proofs.YtmoofcmmpemdcaaGreatDoor
namespace Go.Proofs.YtmoofcmmpemdcaaGreatDoor
open Go.RowKit
/-- The blocks that Lines writes. -/
def LnP (g : Nat) (v : Value) (j : Nat) : Prop := j = g ∨ v.ownBlock = some j
theorem touch_into {P Q : Nat → Prop} {w w1 w2 : World} (h : Touch P w w1) (k : Touch Q w1 w2) (hq : ∀ i, i < w.heap.size → Q i → P i) : Touch P w w2 :=
  ⟨k.os.trans h.os, k.tape.trans h.tape, k.output.trans h.output, Nat.le_trans h.size k.size, fun i hi hP => (k.block i (Nat.lt_of_lt_of_le hi h.size) fun hQ => hP (hq i hi hQ)).trans (h.block i hi hP)⟩
theorem OwnB.lt {w : World} {B : Nat} {v : Value} {l : List UInt8} (h : OwnB w B v l) : ∀ k, v.ownBlock = some k → B ≤ k ∧ k < w.heap.size := by
  intro k hk
  obtain ⟨_, h2⟩ := h
  rcases h2 with ⟨rfl, _⟩ | ⟨g', cap, cur, rfl, hB, hg, _⟩
  · cases hk
  · have : g' = k := by injection hk
    subst this
    exact ⟨hB, (Array.getElem?_eq_some_iff.1 hg).1⟩
theorem seeP_eq (L S : Int) (Ln : List UInt8) (Wi Tu Wh : Bool) (E : Int) (c : UInt8) (e0 : L ≠ 0) : seeP ⟨L, S, Ln, Wi, Tu, Wh, E⟩ c = (if Tu ≠ decide (c = 10) then (⟨L, S, Ln, Wi, Tu, Wh, E⟩, 8)
    else if decide (c = 13) = true then (⟨L - 1, S + 1, Ln, !Wh, true, Wh, E⟩, 0)
    else if decide (c = 10) = true then (⟨L - 1, S + 1, Ln, false, false, true, E⟩, 0)
    else (⟨L - 1, S + 1, Ln ++ [c], !Wh, Tu, Wh, E⟩, 0)) := by
  unfold seeP
  rw [if_neg e0]
  simp only [decide_eq_true_eq]
theorem ln_cr {w : World} {g : Nat} {v : Value} {L S : Int} {Wi Tu Wh : Bool} {E : Int} (v2 : Value) (h : Blk w g #[.int .i64 L, .int .i64 S, v, .bool Wi, .bool Tu, .bool Wh, .int .i64 E] 142) : Blk ((((w.setCell ⟨g, 4, none⟩ (.bool true)).setCell ⟨g, 0, none⟩ (.int .i64 (L - 1))).setCell ⟨g, 1, none⟩ (.int .i64 (S + 1))).setCell ⟨g, 3, none⟩ (.bool (!Wh))) g #[.int .i64 (L - 1), .int .i64 (S + 1), v, .bool (!Wh), .bool true, .bool Wh, .int .i64 E] 142 := by
  have := ((((h.set 4 (.bool true)).set 0 (.int .i64 (L - 1))).set 1 (.int .i64 (S + 1))).set 3 (.bool (!Wh)))
  simpa using this
theorem lt_cr (P : Nat → Prop) (w : World) (g : Nat) (hg : P g) (v2 : Value) (L S : Int) (Wh : Bool) : Touch P w ((((w.setCell ⟨g, 4, none⟩ (.bool true)).setCell ⟨g, 0, none⟩ (.int .i64 (L - 1))).setCell ⟨g, 1, none⟩ (.int .i64 (S + 1))).setCell ⟨g, 3, none⟩ (.bool (!Wh))) := (((((Touch.refl _ w).setCell (p := ⟨g, 4, none⟩) hg (.bool true)).setCell (p := ⟨g, 0, none⟩) hg (.int .i64 (L - 1))).setCell (p := ⟨g, 1, none⟩) hg (.int .i64 (S + 1))).setCell (p := ⟨g, 3, none⟩) hg (.bool (!Wh)))
theorem ln_lf {w : World} {g : Nat} {v : Value} {L S : Int} {Wi Tu Wh : Bool} {E : Int} (v2 : Value) (h : Blk w g #[.int .i64 L, .int .i64 S, v, .bool Wi, .bool Tu, .bool Wh, .int .i64 E] 142) : Blk (((((w.setCell ⟨g, 4, none⟩ (.bool false)).setCell ⟨g, 5, none⟩ (.bool true)).setCell ⟨g, 0, none⟩ (.int .i64 (L - 1))).setCell ⟨g, 1, none⟩ (.int .i64 (S + 1))).setCell ⟨g, 3, none⟩ (.bool false)) g #[.int .i64 (L - 1), .int .i64 (S + 1), v, .bool false, .bool false, .bool true, .int .i64 E] 142 := by
  have := (((((h.set 4 (.bool false)).set 5 (.bool true)).set 0 (.int .i64 (L - 1))).set 1 (.int .i64 (S + 1))).set 3 (.bool false))
  simpa using this
theorem lt_lf (P : Nat → Prop) (w : World) (g : Nat) (hg : P g) (v2 : Value) (L S : Int) (Wh : Bool) : Touch P w (((((w.setCell ⟨g, 4, none⟩ (.bool false)).setCell ⟨g, 5, none⟩ (.bool true)).setCell ⟨g, 0, none⟩ (.int .i64 (L - 1))).setCell ⟨g, 1, none⟩ (.int .i64 (S + 1))).setCell ⟨g, 3, none⟩ (.bool false)) := ((((((Touch.refl _ w).setCell (p := ⟨g, 4, none⟩) hg (.bool false)).setCell (p := ⟨g, 5, none⟩) hg (.bool true)).setCell (p := ⟨g, 0, none⟩) hg (.int .i64 (L - 1))).setCell (p := ⟨g, 1, none⟩) hg (.int .i64 (S + 1))).setCell (p := ⟨g, 3, none⟩) hg (.bool false))
theorem ln_ap {w : World} {g : Nat} {v : Value} {L S : Int} {Wi Tu Wh : Bool} {E : Int} (v2 : Value) (h : Blk w g #[.int .i64 L, .int .i64 S, v, .bool Wi, .bool Tu, .bool Wh, .int .i64 E] 142) : Blk ((((w.setCell ⟨g, 2, none⟩ (v2)).setCell ⟨g, 0, none⟩ (.int .i64 (L - 1))).setCell ⟨g, 1, none⟩ (.int .i64 (S + 1))).setCell ⟨g, 3, none⟩ (.bool (!Wh))) g #[.int .i64 (L - 1), .int .i64 (S + 1), v2, .bool (!Wh), .bool Tu, .bool Wh, .int .i64 E] 142 := by
  have := ((((h.set 2 (v2)).set 0 (.int .i64 (L - 1))).set 1 (.int .i64 (S + 1))).set 3 (.bool (!Wh)))
  simpa using this
theorem lt_ap (P : Nat → Prop) (w : World) (g : Nat) (hg : P g) (v2 : Value) (L S : Int) (Wh : Bool) : Touch P w ((((w.setCell ⟨g, 2, none⟩ (v2)).setCell ⟨g, 0, none⟩ (.int .i64 (L - 1))).setCell ⟨g, 1, none⟩ (.int .i64 (S + 1))).setCell ⟨g, 3, none⟩ (.bool (!Wh))) := (((((Touch.refl _ w).setCell (p := ⟨g, 2, none⟩) hg (v2)).setCell (p := ⟨g, 0, none⟩) hg (.int .i64 (L - 1))).setCell (p := ⟨g, 1, none⟩) hg (.int .i64 (S + 1))).setCell (p := ⟨g, 3, none⟩) hg (.bool (!Wh)))
set_option maxRecDepth 100000 in
set_option maxHeartbeats 2000000 in
theorem see_any {g B : Nat} {v : Value} {s : LnS} {w : World} (h : LnAt w g B v s) (c : UInt8) (x : Int) (hx : x = c.toNat) (h1 : 0 ≤ s.left) (h2 : s.left ≤ 1000000) (h3 : 0 ≤ s.spent) (h4 : s.spent ≤ 1000000) (h5 : s.line.length ≤ 1000000) :
    Calls Tryz.prog 122 #[.pointer (some ⟨g, 0, none⟩), .int .u8 x] w fun e w' => e = .returned (.int .i64 (seeP s c).2) ∧ ∃ v', LnAt w' g B v' (seeP s c).1 ∧ Touch (LnP g v) w w' ∧ (v'.ownBlock = v.ownBlock ∨ ∀ k, v'.ownBlock = some k → w.heap.size ≤ k) := by
  obtain ⟨L, S, Ln, Wi, Tu, Wh, E⟩ := s
  simp only at h1 h2 h3 h4 h5
  have a0 : w.cell? ⟨g, 0, none⟩ = some (.int .i64 L) := h.b.cell 0
  have f0 : w.frozen? ⟨g, 0, none⟩ = false := h.b.froz 0
  have a1 : w.cell? ⟨g, 1, none⟩ = some (.int .i64 S) := h.b.cell 1
  have f1 : w.frozen? ⟨g, 1, none⟩ = false := h.b.froz 1
  have a2 : w.cell? ⟨g, 2, none⟩ = some (v) := h.b.cell 2
  have f2 : w.frozen? ⟨g, 2, none⟩ = false := h.b.froz 2
  have a3 : w.cell? ⟨g, 3, none⟩ = some (.bool Wi) := h.b.cell 3
  have f3 : w.frozen? ⟨g, 3, none⟩ = false := h.b.froz 3
  have a4 : w.cell? ⟨g, 4, none⟩ = some (.bool Tu) := h.b.cell 4
  have f4 : w.frozen? ⟨g, 4, none⟩ = false := h.b.froz 4
  have a5 : w.cell? ⟨g, 5, none⟩ = some (.bool Wh) := h.b.cell 5
  have f5 : w.frozen? ⟨g, 5, none⟩ = false := h.b.froz 5
  have a6 : w.cell? ⟨g, 6, none⟩ = some (.int .i64 E) := h.b.cell 6
  have f6 : w.frozen? ⟨g, 6, none⟩ = false := h.b.froz 6
  have H := Lib.hid h
  have hlt := h.b.lt
  obtain ⟨R, hR⟩ : ∃ R, R = seeP ⟨L, S, Ln, Wi, Tu, Wh, E⟩ c := ⟨_, rfl⟩
  rw [← hR]
  clear h
  by_cases e0 : L = 0
  · have d0 : (L == 0) = true := by rw [beq_iff_eq]; exact e0
    have hR : R = (⟨L, S, Ln, Wi, Tu, Wh, E⟩, 4) := by rw [hR]; unfold seeP; rw [if_pos e0]
    subst hR
    clear e0 hR
    go_enter Tryz.func122, Tryz.ntmps122
    go_wp2_with fail
    go_ret
    exact ⟨rfl, v, H.out, Touch.refl _ _, Or.inl rfl⟩
  have d0 : (L == 0) = false := by rw [beq_eq_false_iff_ne]; exact e0
  rw [seeP_eq _ _ _ _ _ _ _ _ e0] at hR
  have HR := Lib.hid hR
  have hw1 : wrap64 (L - 1) = L - 1 := IntWalk.wrap64_in _ ⟨by omega, by omega⟩
  have hw2 : wrap64 (S + 1) = S + 1 := IntWalk.wrap64_in _ ⟨by omega, by omega⟩
  clear hR e0 h1 h2 h3 h4
  have hc10 : decide (c = 10) = (x == 10) := by
    rw [hx]
    by_cases e : c = 10
    · subst e; rfl
    · rw [decide_eq_false e, eq_comm, beq_eq_false_iff_ne]
      intro k
      exact e (UInt8.toNat_inj.1 (by have : c.toNat = 10 := by omega
                                     simpa using this))
  have hc13 : decide (c = 13) = (x == 13) := by
    rw [hx]
    by_cases e : c = 13
    · subst e; rfl
    · rw [decide_eq_false e, eq_comm, beq_eq_false_iff_ne]
      intro k
      exact e (UInt8.toNat_inj.1 (by have : c.toNat = 13 := by omega
                                     simpa using this))
  have HX := Lib.hid hx
  clear hx
  have h1013 : (x == 10) = true → (x == 13) = false := by
    intro k
    rw [beq_iff_eq] at k
    rw [k]
    rfl
  cases k10 : (x == 10) with
  | true =>
    have k13 := h1013 k10
    have HC := Lib.hid (And.intro (hc10.trans k10) (hc13.trans k13))
    clear hc10 hc13 h1013
    cases Tu with
    | false =>
      have hR : R = (⟨L, S, Ln, Wi, false, Wh, E⟩, 8) := by rw [HR.out, HC.out.1]; rfl
      subst hR
      go_enter Tryz.func122, Tryz.ntmps122
      go_wp2_with fail
      go_ret
      exact ⟨rfl, v, H.out, Touch.refl _ _, Or.inl rfl⟩
    | true =>
      have hR : R = (⟨L - 1, S + 1, Ln, false, false, true, E⟩, 0) := by rw [HR.out, HC.out.1, HC.out.2]; rfl
      subst hR
      go_enter Tryz.func122, Tryz.ntmps122
      go_wp2_with fail
      go_ret
      have T1 := lt_lf (LnP g v) w g (Or.inl rfl) v L S Wh
      have T2 := lt_lf (fun j => j = g) w g rfl v L S Wh
      have K1 := ln_lf v H.out.b
      refine ⟨rfl, v, ⟨K1, own_touch H.out.o T2 (fun k hk e => absurd (H.out.o.lt k hk).1 (by have := H.out.lt; omega)), H.out.lt, Nat.le_trans H.out.sz T1.size⟩, T1, Or.inl rfl⟩
  | false =>
    cases Tu with
    | true =>
      have HC := Lib.hid (And.intro (hc10.trans k10) (True.intro))
      clear hc10 hc13 h1013
      have hR : R = (⟨L, S, Ln, Wi, true, Wh, E⟩, 8) := by rw [HR.out, HC.out.1]; rfl
      subst hR
      go_enter Tryz.func122, Tryz.ntmps122
      go_wp2_with fail
      go_ret
      exact ⟨rfl, v, H.out, Touch.refl _ _, Or.inl rfl⟩
    | false =>
      cases k13 : (x == 13) with
      | true =>
        have HC := Lib.hid (And.intro (hc10.trans k10) (hc13.trans k13))
        clear hc10 hc13 h1013
        have hR : R = (⟨L - 1, S + 1, Ln, !Wh, true, Wh, E⟩, 0) := by rw [HR.out, HC.out.1, HC.out.2]; rfl
        subst hR
        go_enter Tryz.func122, Tryz.ntmps122
        go_wp2_with fail
        go_ret
        have T1 := lt_cr (LnP g v) w g (Or.inl rfl) v L S Wh
        have T2 := lt_cr (fun j => j = g) w g rfl v L S Wh
        have K1 := ln_cr v H.out.b
        refine ⟨rfl, v, ⟨K1, own_touch H.out.o T2 (fun k hk e => absurd (H.out.o.lt k hk).1 (by have := H.out.lt; omega)), H.out.lt, Nat.le_trans H.out.sz T1.size⟩, T1, Or.inl rfl⟩
      | false =>
        have HC := Lib.hid (And.intro (hc10.trans k10) (hc13.trans k13))
        clear hc10 hc13 h1013
        have hR : R = (⟨L - 1, S + 1, Ln ++ [c], !Wh, false, Wh, E⟩, 0) := by rw [HR.out, HC.out.1, HC.out.2]; rfl
        subst hR
        have H5 := Lib.hid h5
        clear h5
        go_enter Tryz.func122, Tryz.ntmps122
        go_wp2_with (at_builtin; refine wpList_push_byte rfl _ _ rfl rfl H.out.o c x HX.out rfl H5.out H.out.sz ?_; intro g1 c1 w1 ho1 ht1 hg1; have hne : ∀ j, v.ownBlock = some j → j ≠ g := fun j hj e => absurd (H.out.o.lt j hj).1 (by have := H.out.lt; omega); have b1 : Blk w1 g _ _ := H.out.b.touch ht1 (fun e => hne g e rfl); have a0 : w1.cell? ⟨g, 0, none⟩ = some (.int .i64 L) := b1.cell 0; have a1 : w1.cell? ⟨g, 1, none⟩ = some (.int .i64 S) := b1.cell 1; have a2 : w1.cell? ⟨g, 2, none⟩ = some v := b1.cell 2; have a3 : w1.cell? ⟨g, 3, none⟩ = some (.bool Wi) := b1.cell 3; have a5 : w1.cell? ⟨g, 5, none⟩ = some (.bool Wh) := b1.cell 5; have f0 : w1.frozen? ⟨g, 0, none⟩ = false := b1.froz 0; have f1 : w1.frozen? ⟨g, 1, none⟩ = false := b1.froz 1; have f2 : w1.frozen? ⟨g, 2, none⟩ = false := b1.froz 2; have f3 : w1.frozen? ⟨g, 3, none⟩ = false := b1.froz 3; have B1 := Lib.hid b1; have HO1 := Lib.hid ho1; have HT1 := Lib.hid ht1; have HG1 : Hid (v.ownBlock = some g1 ∨ w.heap.size ≤ g1) := hg1; clear b1 ho1 ht1 hg1 hne)
        go_ret
        have T1 := lt_ap (LnP g v) w1 g (Or.inl rfl) (.slice (some ⟨g1, 0, none⟩) (Ln.length + 1) c1) L S Wh
        have T2 := lt_ap (fun j => j = g) w1 g rfl (.slice (some ⟨g1, 0, none⟩) (Ln.length + 1) c1) L S Wh
        have K1 := ln_ap (.slice (some ⟨g1, 0, none⟩) (Ln.length + 1) c1) B1.out
        have T0 : Touch (LnP g v) w w1 := HT1.out.mono (fun j _ hj => Or.inr hj)
        have hg : g < B := H.out.lt
        have hsz := H.out.sz
        have hT1 := T0.size
        have hT2 := T1.size
        have ho : OwnB ((((w1.setCell ⟨g, 2, none⟩ (.slice (some ⟨g1, 0, none⟩) (Ln.length + 1) c1)).setCell ⟨g, 0, none⟩ (.int .i64 (L - 1))).setCell ⟨g, 1, none⟩ (.int .i64 (S + 1))).setCell ⟨g, 3, none⟩ (.bool (!Wh))) B (.slice (some ⟨g1, 0, none⟩) (Ln.length + 1) c1) (Ln ++ [c]) := own_touch HO1.out T2 (fun k hk e => absurd (OwnB.lt HO1.out k hk).1 (by omega))
        refine ⟨rfl, .slice (some ⟨g1, 0, none⟩) (Ln.length + 1) c1, ⟨K1, ho, hg, by omega⟩, T0.trans T1, ?_⟩
        rcases HG1.out with hg1 | hg1
        · left; rw [hg1]; rfl
        · right
          intro k hk
          have : g1 = k := by injection hk
          rw [← this]
          exact hg1
end Go.Proofs.YtmoofcmmpemdcaaGreatDoor
namespace Go.Proofs.YtmoofcmmpemdcaaGreatDoor
open Go.RowKit
set_option maxRecDepth 100000 in
theorem OwnB.conv {w : World} {B : Nat} {v : Value} {l : List UInt8} (h : OwnB w B v l) : (convert 100 9 v).run Tryz.prog w = .ok (.string (strL l)) w := by
  obtain ⟨_, h⟩ := h
  rcases h with ⟨rfl, h0⟩ | ⟨g, cap, cur, rfl, _, hg, k1, k2, k3, k4⟩
  · have : l = [] := List.eq_nil_of_length_eq_zero h0
    subst this
    exact Lib.run_convert_nil_bytes w 100 9 5 0 Tryz.underlying100 Tryz.underlying5 Tryz.underlying9
  · rw [Nat.mul_one] at k4
    have := run_convert_bytes_arg (P := Tryz.prog) w 100 5 Tryz.underlying100 Tryz.underlying5 g 0 l.length cap (l.map fun b : UInt8 => (b.toNat : Int)) (by simp) (fun i hi => by
      have a : (l.map fun b => Value.int .u8 b.toNat)[i]? = some (.int .u8 l[i].toNat) := by rw [List.getElem?_map, List.getElem?_eq_getElem hi]; rfl
      rw [← k4, List.getElem?_take, if_pos (by omega), Array.getElem?_toList] at a
      simp only [World.cell?, hg, Nat.zero_add]
      rw [a, List.getD_eq_getElem?_getD, List.getElem?_map, List.getElem?_eq_getElem hi]
      rfl) 9 Tryz.underlying9
    rw [this]
    congr 2
    unfold strOfNums strL
    simp [Function.comp_def]
set_option maxRecDepth 100000 in
theorem OwnB.cut {w : World} {B : Nat} {v : Value} {l : List UInt8} (h : OwnB w B v l) : ∃ p0 c0, (Value.slice p0 0 c0).ownBlock = v.ownBlock ∧ OwnB w B (.slice p0 0 c0) [] ∧ ∀ W, (Instr.slice 100 v none (some (.int .i64 0)) none).run Tryz.prog W = .ok (.slice p0 0 c0) W := by
  obtain ⟨h1, h⟩ := h
  obtain ⟨i0, hi, _⟩ := info_parts info_byte
  rcases h with ⟨rfl, h0⟩ | ⟨g, cap, cur, rfl, hB, hg, k1, k2, k3, k4⟩
  · refine ⟨none, 0, rfl, OwnB.start w B, fun W => ?_⟩
    rw [run_slice_h W 100 none 0 0 Tryz.underlying100 .i64 0 (by decide) (by decide)]
    rw [run_sizeOf (t := Tryz.prog.elem 100) (i := i0) W hi]
    rfl
  · refine ⟨some ⟨g, 0, none⟩, cap, rfl, ⟨by simp, Or.inr ⟨g, cap, cur, rfl, hB, hg, Nat.zero_le _, k2, k3, rfl⟩⟩, fun W => ?_⟩
    rw [run_slice_h W 100 (some ⟨g, 0, none⟩) l.length cap Tryz.underlying100 .i64 0 (by decide) (by omega)]
    rw [run_sizeOf (t := Tryz.prog.elem 100) (i := i0) W hi]
    simp only [Result.andThen]
    unfold sliced
    simp [Addr.add]
theorem LnAt.drew {w : World} {g B : Nat} {v : Value} {s : LnS} (h : LnAt w g B v s) : LnAt w.drew g B v s := ⟨h.b.drew, h.o, h.lt, h.sz⟩
set_option maxRecDepth 100000 in
theorem lnew_nil (n : Int) (h : n < 0 ∨ 65536 < n) (w : World) : Calls Tryz.prog 52 #[.int .i64 n] w fun e w' => e = .returned (.pointer none) ∧ w' = w := by
  by_cases h0 : n < 0
  · have d0 : decide (n < 0) = true := decide_eq_true h0
    clear h
    go_enter Tryz.func52, Tryz.ntmps52
    go_wp2_with fail
    go_ret
    exact ⟨rfl, rfl⟩
  · have d0 : decide (n < 0) = false := decide_eq_false h0
    have d1 : decide (n > 65536) = true := decide_eq_true (by omega)
    clear h h0
    go_enter Tryz.func52, Tryz.ntmps52
    go_wp2_with fail
    go_ret
    exact ⟨rfl, rfl⟩
def ln0 (n : Int) : LnS := ⟨n, 0, [], false, false, false, 0⟩
set_option maxRecDepth 100000 in
theorem lnew_any (n : Int) (h0 : 0 ≤ n) (h1 : n ≤ 65536) (w : World) : Calls Tryz.prog 52 #[.int .i64 n] w fun e w' => e = .returned (.pointer (some ⟨w.heap.size, 0, none⟩)) ∧ w' = w.alloc (.cells ((ln0 n).row (.slice none 0 0)) 142) := by
  have d0 : decide (n < 0) = false := decide_eq_false (by omega)
  have d1 : decide (n > 65536) = false := decide_eq_false (by omega)
  clear h0 h1
  go_enter Tryz.func52, Tryz.ntmps52
  go_wp2_with fail
  go_ret
  exact ⟨rfl, rfl⟩
set_option maxRecDepth 100000 in
theorem lwhole_any {w : World} {g B : Nat} {v : Value} {s : LnS} (h : LnAt w g B v s) : Calls Tryz.prog 68 #[.pointer (some ⟨g, 0, none⟩)] w fun e w' => e = .returned (.bool s.whole) ∧ w = w' := by
  have a5 : w.cell? ⟨g, 5, none⟩ = some (.bool s.whole) := h.b.cell 5
  clear h
  go_enter Tryz.func68, Tryz.ntmps68
  go_wp2_with fail
  go_ret
  exact ⟨rfl, rfl⟩
set_option maxRecDepth 100000 in
theorem lwithin_any {w : World} {g B : Nat} {v : Value} {s : LnS} (h : LnAt w g B v s) : Calls Tryz.prog 57 #[.pointer (some ⟨g, 0, none⟩)] w fun e w' => e = .returned (.bool s.within) ∧ w = w' := by
  have a3 : w.cell? ⟨g, 3, none⟩ = some (.bool s.within) := h.b.cell 3
  clear h
  go_enter Tryz.func57, Tryz.ntmps57
  go_wp2_with fail
  go_ret
  exact ⟨rfl, rfl⟩
set_option maxRecDepth 100000 in
theorem lline_any {w : World} {g B : Nat} {v : Value} {s : LnS} (h : LnAt w g B v s) (hw : s.whole = true) : Calls Tryz.prog 70 #[.pointer (some ⟨g, 0, none⟩)] w fun e w' => e = .returned (.string (strL s.line)) ∧
    ∃ v', LnAt w' g B v' { s with line := [], whole := false } ∧ Touch (fun j => j = g) w w' ∧ v'.ownBlock = v.ownBlock := by
  obtain ⟨L, S, Ln, Wi, Tu, Wh, E⟩ := s
  simp only at hw
  subst hw
  obtain ⟨p0, c0, hv0, ho0, hsl⟩ := h.o.cut
  have a2 : w.cell? ⟨g, 2, none⟩ = some v := h.b.cell 2
  have f2 : w.frozen? ⟨g, 2, none⟩ = false := h.b.froz 2
  have a5 : w.cell? ⟨g, 5, none⟩ = some (.bool true) := h.b.cell 5
  have f5 : w.frozen? ⟨g, 5, none⟩ = false := h.b.froz 5
  have hcv := h.o.conv
  have H := Lib.hid h
  have HW := Lib.hid (lwhole_any h)
  have HV := Lib.hid hv0
  have HO := Lib.hid ho0
  clear h hv0 ho0
  go_enter Tryz.func70, Tryz.ntmps70
  go_wp2_with (go_at_call 68; refine HW.out.mono ?_; rintro e1 w1 ⟨rfl, rfl⟩)
  go_ret
  refine ⟨rfl, .slice p0 0 c0, ⟨(H.out.b.set 2 (.slice p0 0 c0)).set 5 (.bool false), own_touch HO.out (((Touch.refl (fun j => j = g) w).setCell (p := ⟨g, 2, none⟩) rfl (.slice p0 0 c0)).setCell (p := ⟨g, 5, none⟩) rfl (.bool false)) (fun k hk e => absurd (H.out.o.lt k (HV.out ▸ hk)).1 (by have := H.out.lt; omega)), H.out.lt, ?_⟩, ((Touch.refl (fun j => j = g) w).setCell (p := ⟨g, 2, none⟩) rfl (.slice p0 0 c0)).setCell (p := ⟨g, 5, none⟩) rfl (.bool false), HV.out⟩
  have := (((Touch.refl (fun j => j = g) w).setCell (p := ⟨g, 2, none⟩) rfl (.slice p0 0 c0)).setCell (p := ⟨g, 5, none⟩) rfl (.bool false)).size
  exact Nat.le_trans H.out.sz this
end Go.Proofs.YtmoofcmmpemdcaaGreatDoor
namespace Go.Proofs.YtmoofcmmpemdcaaGreatDoor
open Go.RowKit
/-- How much Lines may hold. -/
structure LnOk (s : LnS) : Prop where
  l0 : 0 ≤ s.left
  s0 : 0 ≤ s.spent
  m : s.left + s.spent ≤ 65536
  t : (s.line.length : Int) ≤ s.spent
theorem seeP_ok {s : LnS} (h : LnOk s) (c : UInt8) : LnOk (seeP s c).1 := by
  obtain ⟨h1, h2, h3, h4⟩ := h
  unfold seeP
  repeat' split
  all_goals first
    | exact ⟨h1, h2, h3, h4⟩
    | (constructor <;> simp <;> omega)
theorem lnOk_e {s : LnS} (h : LnOk s) (e : Int) : LnOk { s with e := e } := ⟨h.l0, h.s0, h.m, h.t⟩
theorem lnFeed_ok : ∀ (l : List UInt8) (s : LnS), LnOk s → LnOk (lnFeed l s).1
  | [], s, h => h
  | c :: r, s, h => by
    rw [lnFeed]
    split
    · exact h
    split
    · exact lnFeed_ok r _ (lnOk_e (seeP_ok h c) 0)
    · exact lnOk_e (seeP_ok h c) _
theorem LnAt.setE {w : World} {g B : Nat} {v : Value} {s : LnS} (h : LnAt w g B v s) (e : Int) : LnAt (w.setCell ⟨g, 6, none⟩ (.int .i64 e)) g B v { s with e := e } := by
  have T := (Touch.refl (fun j => j = g) w).setCell (p := ⟨g, 6, none⟩) rfl (.int .i64 e)
  exact ⟨h.b.set 6 (.int .i64 e), own_touch h.o T (fun k hk e => absurd (h.o.lt k hk).1 (by have := h.lt; omega)), h.lt, Nat.le_trans h.sz T.size⟩
theorem LnAt.drewN {w : World} {g B : Nat} {v : Value} {s : LnS} (h : LnAt w g B v s) (n : Nat) : LnAt (w.drewN n) g B v s := ⟨h.b.drewN n, h.o, h.lt, h.sz⟩
/-- Whether no error is held. -/
def eM (g : Nat) (w : World) : Nat := match w.cell? ⟨g, 6, none⟩ with
  | some (.int _ e) => if e = 0 then 1 else 0
  | _ => 0
theorem eM_1 {g : Nat} {w : World} (h : w.cell? ⟨g, 6, none⟩ = some (.int .i64 0)) : eM g w = 1 := by unfold eM; rw [h]; rfl
theorem eM_0 {g : Nat} {w : World} {e : Int} (h : w.cell? ⟨g, 6, none⟩ = some (.int .i64 e)) (he : e ≠ 0) : eM g w = 0 := by
  unfold eM
  rw [h]
  exact if_neg he
set_option maxRecDepth 100000 in
set_option maxHeartbeats 2000000 in
theorem lfeed_any {w : World} {g B : Nat} {v : Value} {s : LnS} (h : LnAt w g B v s) (hs : LnOk s) (S : ByteArray) (hS : S.size ≤ 1000000) :
    Calls Tryz.prog 67 #[.pointer (some ⟨g, 0, none⟩), .string S] w fun e w' => e = .returned (.tuple #[.int .i64 (lnFeed S.data.toList s).2, .int .i64 (lnFeed S.data.toList s).1.e]) ∧
      ∃ v', LnAt w' g B v' (lnFeed S.data.toList s).1 ∧ Touch (LnP g v) w w' ∧ (v'.ownBlock = v.ownBlock ∨ ∀ k, v'.ownBlock = some k → w.heap.size ≤ k) := by
  obtain ⟨R, hR⟩ : ∃ R, R = lnFeed S.data.toList s := ⟨_, rfl⟩
  rw [← hR]
  have H := Lib.hid h
  have HR := Lib.hid hR
  have HS := Lib.hid hs
  have hn : S.data.toList.length = S.size := (Lib.size_eq S).symm
  have HN := Lib.hid hn
  have HB := Lib.hid (h.o.lt)
  clear h hR hs hn
  go_enter Tryz.func67, Tryz.ntmps67
  go_wp2_with fail
  go_loopw [4] (fun u4 wr => ∃ (k : Nat) (sk : LnS) (vk : Value), k ≤ S.size ∧ u4 = .int .i64 k ∧ LnAt wr g B vk sk ∧ LnOk sk ∧ R = ((lnFeed (S.data.toList.drop k) sk).1, k + (lnFeed (S.data.toList.drop k) sk).2) ∧ Touch (LnP g v) w wr ∧ (vk.ownBlock = v.ownBlock ∨ ∀ j, vk.ownBlock = some j → w.heap.size ≤ j)) (fun u4 wr => 2 * (S.size - (intOf u4).toNat) + eM g wr)
  case atStart => exact ⟨0, s, v, Nat.zero_le _, rfl, H.out, HS.out, by rw [HR.out, List.drop_zero, Nat.zero_add], Touch.refl _ _, Or.inl rfl⟩
  case round =>
    obtain ⟨k, sk, vk, hk, rfl, hat, hok, hpre, htc, hbl⟩ := hrel
    have HA := Lib.hid hat
    have HO := Lib.hid hok
    have HP := Lib.hid hpre
    have HT := Lib.hid htc
    have HL := Lib.hid hbl
    clear hpre htc hbl
    obtain ⟨WH, hWH⟩ : ∃ b, b = sk.whole := ⟨_, rfl⟩
    obtain ⟨E, hE⟩ : ∃ b, b = sk.e := ⟨_, rfl⟩
    have a5 : wr.cell? ⟨g, 5, none⟩ = some (.bool WH) := by rw [hWH]; exact hat.b.cell 5
    have a6 : wr.cell? ⟨g, 6, none⟩ = some (.int .i64 E) := by rw [hE]; exact hat.b.cell 6
    have f6 : wr.frozen? ⟨g, 6, none⟩ = false := hat.b.froz 6
    have HW := Lib.hid hWH
    have HE := Lib.hid hE
    clear hWH hE hat hok
    by_cases hlt : k < S.size
    · have hk1 : decide ((k : Int) < (S.size : Int)) = true := decide_eq_true (by omega)
      cases WH with
      | true =>
        have hfin : R = (sk, k) := by rw [HP.out, lnFeed_stop _ _ (Or.inl HW.out.symm)]; rfl
        have HF := Lib.hid hfin
        clear hfin
        go_wp2_with fail
        refine wp_region_drewZ (by kernel_rfl) (by kernel_rfl) ?_
        repeat go_big_quiet_step (fail)
        refine wpQuiet_nil ?_
        rintro _ ⟨nq, rfl⟩
        go_wp2_with fail
        go_ret2
        exact ⟨by rw [HF.out, ← HE.out]; rfl, vk, by rw [HF.out]; exact HA.out.drewN nq, HT.out.drewN nq, HL.out⟩
      | false =>
        by_cases he : E = 0
        · subst he
          obtain ⟨c, hc⟩ : ∃ c, S.data.toList[k]? = some c := ⟨_, List.getElem?_eq_getElem (by have := HN.out; omega)⟩
          have hbt : bt S k = c.toNat := by
            unfold bt
            rw [dif_pos hlt]
            have : S.data.toList[k]? = some S[k] := by rw [List.getElem?_eq_getElem (by have := HN.out; omega)]; rfl
            rw [this] at hc
            injection hc with hc
            rw [hc]
          have hix : ∀ W : World, (Instr.index 9 (.string S) (.int .i64 (k : Int))).run Tryz.prog W = .ok (.int .u8 (bt S k)) W := index_bt S k hlt
          obtain ⟨x, hx⟩ : ∃ x : Int, x = bt S k := ⟨_, rfl⟩
          rw [← hx] at hix hbt
          obtain ⟨q, hq⟩ : ∃ q, q = seeP sk c := ⟨_, rfl⟩
          have hstep : lnFeed (S.data.toList.drop k) sk = if q.2 = 0 then ((lnFeed (S.data.toList.drop (k + 1)) { q.1 with e := 0 }).1, (lnFeed (S.data.toList.drop (k + 1)) { q.1 with e := 0 }).2 + 1) else ({ q.1 with e := q.2 }, 0) := by
            have hkl : k < S.data.toList.length := by have := HN.out; omega
            have : S.data.toList[k] = c := by rw [List.getElem?_eq_getElem hkl] at hc; injection hc
            rw [List.drop_eq_getElem_cons hkl, this, lnFeed, if_neg (by rw [← HW.out, ← HE.out]; simp), ← hq]
          have HST := Lib.hid hstep
          have HQ := Lib.hid (show LnOk q.1 by rw [hq]; exact seeP_ok HO.out c)
          have HSEE := Lib.hid (see_any HA.out c x hbt HO.out.l0 (by have := HO.out.m; have := HO.out.s0; omega) HO.out.s0 (by have := HO.out.m; have := HO.out.l0; omega) (by have := HO.out.t; have := HO.out.m; have := HO.out.l0; omega))
          rw [← hq] at HSEE
          clear hstep hq hbt hx hc
          obtain ⟨q1, q2⟩ := q
          by_cases h0 : q2 = 0
          · subst h0
            go_wp2_with (go_at_call 122; refine HSEE.out.mono ?_; rintro e' w3 ⟨rfl, v3, hat3, ht3, hb3⟩; have f6 : w3.frozen? ⟨g, 6, none⟩ = false := hat3.b.froz 6; have a6 : w3.cell? ⟨g, 6, none⟩ = some (.int .i64 q1.e) := hat3.b.cell 6; have HA3 := Lib.hid hat3; have HT3 := Lib.hid ht3; have HB3 := Lib.hid hb3; clear hat3 ht3 hb3)
            go_roundw
            case rel =>
              refine ⟨k + 1, { q1 with e := 0 }, v3, hlt, by go_num, HA3.out.setE 0, lnOk_e HQ.out 0, ?_, ?_, ?_⟩
              · rw [HP.out, HST.out, if_pos trivial]
                refine Prod.ext rfl ?_
                show k + (_ + 1) = k + 1 + _
                omega
              · refine touch_into HT.out (HT3.out.setCell (p := ⟨g, 6, none⟩) (Or.inl rfl) _) (fun i hi hp => ?_)
                rcases hp with hp | hp
                · exact Or.inl hp
                · rcases HL.out with hl | hl
                  · exact Or.inr (hl ▸ hp)
                  · exact absurd (hl i hp) (by omega)
              · rcases HB3.out with hb | hb
                · rw [hb]; exact HL.out
                · exact Or.inr (fun j hj => Nat.le_trans HT.out.size (hb j hj))
            case measure =>
              rw [eM_1 ((HA.out.b.cell 6).trans (by show some (Value.int .i64 sk.e) = _; rw [← HE.out])), eM_1 ((HA3.out.setE 0).b.cell 6)]
              simp [intOf]
              omega
          · have h1 : (q2 == 0) = false := by rw [beq_eq_false_iff_ne]; exact h0
            have H0 := Lib.hid h0
            clear h0
            go_wp2_with (go_at_call 122; refine HSEE.out.mono ?_; rintro e' w3 ⟨rfl, v3, hat3, ht3, hb3⟩; have f6 : w3.frozen? ⟨g, 6, none⟩ = false := hat3.b.froz 6; have a6 : w3.cell? ⟨g, 6, none⟩ = some (.int .i64 q1.e) := hat3.b.cell 6; have HA3 := Lib.hid hat3; have HT3 := Lib.hid ht3; have HB3 := Lib.hid hb3; clear hat3 ht3 hb3)
            go_roundw
            case rel =>
              refine ⟨k, { q1 with e := q2 }, v3, hk, rfl, HA3.out.setE q2, lnOk_e HQ.out q2, ?_, ?_, ?_⟩
              · rw [HP.out, HST.out, if_neg H0.out, lnFeed_stop _ _ (Or.inr H0.out)]
              · refine touch_into HT.out (HT3.out.setCell (p := ⟨g, 6, none⟩) (Or.inl rfl) _) (fun i hi hp => ?_)
                rcases hp with hp | hp
                · exact Or.inl hp
                · rcases HL.out with hl | hl
                  · exact Or.inr (hl ▸ hp)
                  · exact absurd (hl i hp) (by omega)
              · rcases HB3.out with hb | hb
                · rw [hb]; exact HL.out
                · exact Or.inr (fun j hj => Nat.le_trans HT.out.size (hb j hj))
            case measure =>
              rw [eM_1 ((HA.out.b.cell 6).trans (by show some (Value.int .i64 sk.e) = _; rw [← HE.out])), eM_0 ((HA3.out.setE q2).b.cell 6) H0.out]
              simp [intOf]
        · have h1 : (E == 0) = false := by rw [beq_eq_false_iff_ne]; exact he
          have hfin : R = (sk, k) := by rw [HP.out, lnFeed_stop _ _ (Or.inr (HE.out ▸ he))]; rfl
          have HF := Lib.hid hfin
          clear hfin
          go_wp2_with fail
          refine wp_region_drewZ (by kernel_rfl) (by kernel_rfl) ?_
          repeat go_big_quiet_step (fail)
          refine wpQuiet_nil ?_
          rintro _ ⟨nq, rfl⟩
          go_wp2_with fail
          go_ret2
          exact ⟨by rw [HF.out, ← HE.out]; rfl, vk, by rw [HF.out]; exact HA.out.drewN nq, HT.out.drewN nq, HL.out⟩
    · have hk1 : decide ((k : Int) < (S.size : Int)) = false := decide_eq_false (by omega)
      have hfin : R = (sk, k) := by
        rw [HP.out, List.drop_of_length_le (by have := HN.out; omega)]
        rfl
      have HF := Lib.hid hfin
      clear hfin
      go_wp2_with fail
      refine wp_region_drewZ (by kernel_rfl) (by kernel_rfl) ?_
      repeat go_big_quiet_step (fail)
      refine wpQuiet_nil ?_
      rintro _ ⟨nq, rfl⟩
      go_wp2_with fail
      go_ret2
      exact ⟨by rw [HF.out, ← HE.out]; rfl, vk, by rw [HF.out]; exact HA.out.drewN nq, HT.out.drewN nq, HL.out⟩
end Go.Proofs.YtmoofcmmpemdcaaGreatDoor
namespace Go.Proofs.YtmoofcmmpemdcaaGreatDoor
open Go.RowKit
theorem LnAt.touch {P : Nat → Prop} {w w1 : World} {g B : Nat} {v : Value} {s : LnS} (h : LnAt w g B v s) (t : Touch P w w1) (hg : ¬ P g) (hv : ∀ k, v.ownBlock = some k → ¬ P k) : LnAt w1 g B v s :=
  ⟨h.b.touch t hg, own_touch h.o t hv, h.lt, Nat.le_trans h.sz t.size⟩
theorem touch_cell {P : Nat → Prop} {w w1 : World} {p : Addr} {v : Value} (h : Touch P w w1) (hp : ¬ P p.block) (hc : w.cell? p = some v) : w1.cell? p = some v := by
  have hlt := World.block_lt_of_cell? w p hc
  rw [← hc]
  unfold World.cell?
  rw [h.block p.block hlt hp]
/-- The row of a parser. -/
def paRow (g : Nat) (va vf : Value) (kind a fields c d fold : Int) (p : PaS) : Array Value := #[.pointer (some ⟨g, 0, none⟩), .int .i64 kind, .int .i64 a, .int .i64 fields, .int .i64 c, .int .i64 d, .int .i64 fold, va, .bool p.fin, .string p.hd.m, .string p.hd.t, .int .i64 p.hd.k, .int .i64 p.hd.n, .string p.hd.r, vf, .int .i64 p.e]
/-- A parser in block b, its lines in block g. -/
structure PaAt (w : World) (b g B : Nat) (vl va vf : Value) (kind a fields c d fold : Int) (p : PaS) : Prop where
  k : Blk w b (paRow g va vf kind a fields c d fold p) 88
  l : LnAt w g B vl p.ln
  o : OwnS w B va p.all
  f : OwnF w B vf p.hd.fs
  z : p.fin = false → vf = nilS ∧ p.hd = hd0
  lt : b < B
  ne : b ≠ g
  b0 : 0 < b
  g0 : 0 < g
  n : ∀ k, vl.ownBlock = some k → va.ownBlock ≠ some k
theorem OwnS.lt {w : World} {B : Nat} {v : Value} {l : List ByteArray} (h : OwnS w B v l) : ∀ k, v.ownBlock = some k → B ≤ k ∧ k < w.heap.size := by
  intro k hk
  obtain ⟨_, h2⟩ := h
  rcases h2 with ⟨rfl, _⟩ | ⟨g', cap, cur, rfl, hB, hg, _⟩
  · cases hk
  · have : g' = k := by injection hk
    subst this
    exact ⟨hB, (Array.getElem?_eq_some_iff.1 hg).1⟩
theorem OwnF.lt {w : World} {B : Nat} {v : Value} {l : List Fd} (h : OwnF w B v l) : ∀ k, v.ownBlock = some k → B ≤ k ∧ k < w.heap.size := by
  intro k hk
  obtain ⟨_, h2⟩ := h
  rcases h2 with ⟨rfl, _⟩ | ⟨g', cap, cur, rfl, hB, hg, _⟩
  · cases hk
  · have : g' = k := by injection hk
    subst this
    exact ⟨hB, (Array.getElem?_eq_some_iff.1 hg).1⟩
theorem OwnS.capok {w : World} {B : Nat} {v : Value} {l : List ByteArray} (h : OwnS w B v l) : CapOk v := by
  obtain ⟨_, h2⟩ := h
  rcases h2 with ⟨rfl, _⟩ | ⟨g', cap, cur, rfl, hB, hg, h3, _⟩
  · exact Nat.le_refl _
  · exact h3
/-- The blocks that a parser writes. -/
def PaP (b g : Nat) (vl va : Value) (j : Nat) : Prop := j = b ∨ j = g ∨ vl.ownBlock = some j ∨ va.ownBlock = some j
theorem PaAt.drew {w : World} {b g B : Nat} {vl va vf : Value} {kind a fields c d fold : Int} {p : PaS} (h : PaAt w b g B vl va vf kind a fields c d fold p) : PaAt w.drew b g B vl va vf kind a fields c d fold p := ⟨h.k.drew, h.l.drew, h.o, h.f, h.z, h.lt, h.ne, h.b0, h.g0, h.n⟩
/-- What keeps a parser as it is. -/
theorem PaAt.touch {P : Nat → Prop} {w w1 : World} {b g B : Nat} {vl va vf : Value} {kind a fields c d fold : Int} {p : PaS} (h : PaAt w b g B vl va vf kind a fields c d fold p) (t : Touch P w w1) (hb : ¬ P b) (hg : ¬ P g) (hB : ∀ k, B ≤ k → ¬ P k) : PaAt w1 b g B vl va vf kind a fields c d fold p :=
  ⟨h.k.touch t hb, h.l.touch t hg (fun k hk => hB k (h.l.o.lt k hk).1), own_touch h.o t (fun k hk => hB k (h.o.lt k hk).1), own_touch h.f t (fun k hk => hB k (h.f.lt k hk).1), h.z, h.lt, h.ne, h.b0, h.g0, h.n⟩
set_option maxRecDepth 100000 in
theorem pline_some {w : World} {b g B : Nat} {vl va vf : Value} {kind a fields c d fold : Int} {p : PaS} (h : PaAt w b g B vl va vf kind a fields c d fold p) (hf : p.fin = false) (s : ByteArray) (hs : s.size ≠ 0) (hl : p.all.length ≤ 100000) :
    Calls Tryz.prog 69 #[.pointer (some ⟨b, 0, none⟩), .string s] w fun e w' => e = .returned (.tuple #[]) ∧ ∃ va', PaAt w' b g B vl va' vf kind a fields c d fold { p with all := p.all ++ [s] } ∧ Touch (PaP b g vl va) w w' ∧ (va'.ownBlock = va.ownBlock ∨ ∀ k, va'.ownBlock = some k → w.heap.size ≤ k) := by
  have a7 : w.cell? ⟨b, 7, none⟩ = some va := h.k.cell 7
  have he : s.toList.isEmpty = false := by
    rw [isEmpty_list]
    have : s.data.toList.length ≠ 0 := by rw [← Lib.size_eq]; exact hs
    cases e : s.data.toList with
    | nil => rw [e] at this; exact absurd rfl this
    | cons x r => rfl
  have H := Lib.hid h
  have HF := Lib.hid hf
  have HLL := Lib.hid hl
  clear h hs hf hl
  go_enter Tryz.func69, Tryz.ntmps69
  go_wp2_with (at_builtin; refine wpList_push_strs rfl _ _ rfl rfl H.out.o s rfl (Nat.le_trans HLL.out (by decide)) H.out.l.sz ?_; intro g1 c1 w1 ho1 ht1 hg1; have b1 : Blk w1 b _ _ := H.out.k.touch ht1 (fun e => absurd (H.out.o.lt b e).1 (by have := H.out.lt; omega)); have a7 : w1.cell? ⟨b, 7, none⟩ = some va := b1.cell 7; have f7 : w1.frozen? ⟨b, 7, none⟩ = false := b1.froz 7; have B1 := Lib.hid b1; have HO1 := Lib.hid ho1; have HG1 : Hid (va.ownBlock = some g1 ∨ w.heap.size ≤ g1) := hg1; have HT1 : Hid (Touch (fun j => va.ownBlock = some j) w w1) := ht1; clear b1 ho1 ht1 hg1)
  go_end0
  have hb := H.out.lt
  have hsz := H.out.l.sz
  have T1 : Touch (PaP b g vl va) w1 (w1.setCell ⟨b, 7, none⟩ (.slice (some ⟨g1, 0, none⟩) (p.all.length + 1) c1)) := (Touch.refl _ w1).setCell (p := ⟨b, 7, none⟩) (Or.inl rfl) _
  have T2 : Touch (fun j => j = b) w1 (w1.setCell ⟨b, 7, none⟩ (.slice (some ⟨g1, 0, none⟩) (p.all.length + 1) c1)) := (Touch.refl (fun j => j = b) w1).setCell (p := ⟨b, 7, none⟩) rfl _
  have hB : ∀ k, B ≤ k → ¬ k = b := fun k hk e => by omega
  have hlw : LnAt w1 g B vl p.ln := H.out.l.touch HT1.out (fun e => absurd (H.out.o.lt g e).1 (by have := H.out.l.lt; omega)) (fun k hk e => H.out.n k hk e)
  have hof : vf = nilS := (H.out.z HF.out).1
  have hh0 : p.hd = hd0 := (H.out.z HF.out).2
  refine ⟨rfl, .slice (some ⟨g1, 0, none⟩) (p.all.length + 1) c1, ⟨B1.out.set 7 _, hlw.touch T2 (fun e => H.out.ne e.symm) (fun k hk => hB k (H.out.l.o.lt k hk).1), own_touch (v := .slice (some ⟨g1, 0, none⟩) (p.all.length + 1) c1) (show World.ownsRow w1 B 9 1 _ _ _ from HO1.out) T2 (fun k hk => hB k (OwnS.lt HO1.out k hk).1), by subst hof; rw [show ({ p with all := p.all ++ [s] } : PaS).hd = hd0 from hh0]; exact OwnF.start _ _, fun _ => ⟨hof, hh0⟩, hb, H.out.ne, H.out.b0, H.out.g0, ?_⟩, (HT1.out.mono (fun k _ hk => Or.inr (Or.inr (Or.inr hk)))).trans T1, ?_⟩
  · intro k hk e
    have e1 : g1 = k := by injection e
    rcases HG1.out with hg | hg
    · exact H.out.n k hk (by rw [hg, e1])
    · have := (H.out.l.o.lt k hk).2
      omega
  · rcases HG1.out with hg | hg
    · left; rw [hg]; rfl
    · right
      intro k hk
      have e1 : g1 = k := by injection hk
      rw [← e1]
      exact hg
set_option maxRecDepth 100000 in
theorem pline_skip {w : World} {b g B : Nat} {vl va vf : Value} {kind a fields c d fold : Int} {p : PaS} (h : PaAt w b g B vl va vf kind a fields c d fold p) (hl : p.all = []) (hk : kind ≠ 2) :
    Calls Tryz.prog 69 #[.pointer (some ⟨b, 0, none⟩), .string ⟨#[]⟩] w fun e w' => e = .returned (.tuple #[]) ∧ w' = w := by
  have a7 : w.cell? ⟨b, 7, none⟩ = some va := h.k.cell 7
  have a1 : w.cell? ⟨b, 1, none⟩ = some (.int .i64 kind) := h.k.cell 1
  have he : (⟨#[]⟩ : ByteArray).toList.isEmpty = true := by rw [isEmpty_list]; rfl
  have hk2 : (kind == 2) = false := by rw [beq_eq_false_iff_ne]; exact hk
  obtain ⟨pp, cc, hsh⟩ := h.o.shape
  rw [hl] at hsh
  rw [hsh] at a7
  clear h hl hk hsh
  go_enter Tryz.func69, Tryz.ntmps69
  go_wp2_with fail
  go_end0
  exact ⟨rfl, rfl⟩
end Go.Proofs.YtmoofcmmpemdcaaGreatDoor
namespace Go.Proofs.YtmoofcmmpemdcaaGreatDoor
open Go.RowKit
/-- What the call of Parse reads of a parser. -/
structure PlS (b : Nat) (va : Value) (kind a fields c d fold : Int) (w : World) : Prop where
  c1 : w.cell? ⟨b, 1, none⟩ = some (.int .i64 kind)
  c2 : w.cell? ⟨b, 2, none⟩ = some (.int .i64 a)
  c3 : w.cell? ⟨b, 3, none⟩ = some (.int .i64 fields)
  c4 : w.cell? ⟨b, 4, none⟩ = some (.int .i64 c)
  c5 : w.cell? ⟨b, 5, none⟩ = some (.int .i64 d)
  c6 : w.cell? ⟨b, 6, none⟩ = some (.int .i64 fold)
  c7 : w.cell? ⟨b, 7, none⟩ = some va
theorem PaAt.pls {w : World} {b g B : Nat} {vl va vf : Value} {kind a fields c d fold : Int} {p : PaS} (h : Blk w b (paRow g va vf kind a fields c d fold p) 88) : PlS b va kind a fields c d fold w :=
  ⟨h.cell 1, h.cell 2, h.cell 3, h.cell 4, h.cell 5, h.cell 6, h.cell 7⟩
/-- The head's six cells of a parser. -/
def setH (w : World) (b : Nat) (h : Hd) (f : Value) : World := (((((w.setCell ⟨b, 9, none⟩ (.string h.m)).setCell ⟨b, 10, none⟩ (.string h.t)).setCell ⟨b, 11, none⟩ (.int .i64 h.k)).setCell ⟨b, 12, none⟩ (.int .i64 h.n)).setCell ⟨b, 13, none⟩ (.string h.r)).setCell ⟨b, 14, none⟩ f
theorem blk_setH {w : World} {b g : Nat} {va vf : Value} {kind a fields c d fold : Int} {p : PaS} (h : Blk w b (paRow g va vf kind a fields c d fold p) 88) (q : Hd) (f : Value) : Blk (setH w b q f) b (paRow g va f kind a fields c d fold { p with hd := q }) 88 :=
  (((((h.set 9 (.string q.m)).set 10 (.string q.t)).set 11 (.int .i64 q.k)).set 12 (.int .i64 q.n)).set 13 (.string q.r)).set 14 f
theorem touch_setH (w : World) (b : Nat) (q : Hd) (f : Value) : Touch (fun j => j = b) w (setH w b q f) :=
  ((((((Touch.refl (fun j => j = b) w).setCell (p := ⟨b, 9, none⟩) rfl _).setCell (p := ⟨b, 10, none⟩) rfl _).setCell (p := ⟨b, 11, none⟩) rfl _).setCell (p := ⟨b, 12, none⟩) rfl _).setCell (p := ⟨b, 13, none⟩) rfl _).setCell (p := ⟨b, 14, none⟩) rfl _
set_option maxRecDepth 100000 in
set_option maxHeartbeats 4000000 in
theorem pline_end {w : World} {b g B : Nat} {vl va vf : Value} {kind a fields c d fold : Int} {p : PaS} (h : PaAt w b g B vl va vf kind a fields c d fold p) (hf : p.fin = false) (hfi : -9223372036854775808 ≤ fields ∧ fields ≤ 9223372036854775807) {mx : Int} (hm : w.cell? ⟨0, 0, none⟩ = some (.int .i64 mx)) (hl : p.all.length ≤ 100000) (ht : tot p.all ≤ 100000) (hk : p.all ≠ [] ∨ kind = 2) :
    Calls Tryz.prog 69 #[.pointer (some ⟨b, 0, none⟩), .string ⟨#[]⟩] w fun e w' => e = .returned (.tuple #[]) ∧ ∃ vf', PaAt w' b g B vl va vf' kind a fields c d fold { p with fin := true, hd := (headP kind fields fold p.all).1, e := (headP kind fields fold p.all).2 } ∧ Touch (fun j => j = b) w w' := by
  have a7 : w.cell? ⟨b, 7, none⟩ = some va := h.k.cell 7
  have a1 : w.cell? ⟨b, 1, none⟩ = some (.int .i64 kind) := h.k.cell 1
  have f8 : w.frozen? ⟨b, 8, none⟩ = false := h.k.froz 8
  obtain ⟨pp, cc, hsh⟩ := h.o.shape
  have he : (⟨#[]⟩ : ByteArray).toList.isEmpty = true := by rw [isEmpty_list]; rfl
  obtain ⟨w8, hw8⟩ : ∃ w8, w8 = w.setCell ⟨b, 8, none⟩ (.bool true) := ⟨_, rfl⟩
  have T8 : Touch (fun j => j = b) w w8 := by rw [hw8]; exact (Touch.refl (fun j => j = b) w).setCell (p := ⟨b, 8, none⟩) rfl _
  have K8 : Blk w8 b (paRow g va vf kind a fields c d fold { p with fin := true }) 88 := by rw [hw8]; exact h.k.set 8 (.bool true)
  have hB : ∀ k, B ≤ k → ¬ k = b := fun k hk e => by have := h.lt; omega
  have O8 : OwnS w8 B va p.all := own_touch h.o T8 (fun k hk => hB k (h.o.lt k hk).1)
  have L8 : LnAt w8 g B vl p.ln := h.l.touch T8 (fun e => h.ne e.symm) (fun k hk => hB k (h.l.o.lt k hk).1)
  have M8 : w8.cell? ⟨0, 0, none⟩ = some (.int .i64 mx) := by
    exact touch_cell T8 (fun e => by have := h.b0; simp at e; omega) hm
  have HP8 := Lib.hid (fun (V : World) (hV : Below w8.heap.size w8 V) => hparse_any kind a fields c d fold hfi va O8.capok p.all V (mx_below M8 hV) (O8.strs.below hV) hl ht)
  have HH := Lib.hid h
  have HT8 := Lib.hid T8
  have HK8 := Lib.hid K8
  have HO8 := Lib.hid O8
  have HL8 := Lib.hid L8
  have HW8 := Lib.hid hw8
  obtain ⟨Q, hQ⟩ : ∃ Q, Q = headP kind fields fold p.all := ⟨_, rfl⟩
  rw [← hQ] at HP8
  obtain ⟨⟨qm, qt, qk, qn, qr, qf⟩, qe⟩ := Q
  have HQ := Lib.hid hQ
  rw [← hQ]
  have hor : (∃ m, p.all.length = m + 1) ∨ (p.all.length = 0 ∧ (kind == 2) = true) := by
    cases hpa : p.all with
    | nil =>
      rcases hk with hk | hk
      · exact absurd hpa hk
      · exact Or.inr ⟨rfl, by subst hk; rfl⟩
    | cons x r => exact Or.inl ⟨r.length, rfl⟩
  have a8 : w.cell? ⟨b, 8, none⟩ = some (.bool false) := by rw [← hf]; exact h.k.cell 8
  clear h hk T8 K8 O8 L8 M8 hm hfi hl ht hQ hB
  have HV : Hid (va = .slice pp p.all.length cc) := hsh
  go_enter Tryz.func69, Tryz.ntmps69
  rcases hor with ⟨m, hm⟩ | ⟨hm, h72⟩
  all_goals rw [hsh, hm] at a7
  all_goals clear hm hsh
  all_goals go_wp2_with fail
  all_goals refine wp_region_at (S := PlS b va kind a fields c d fold) (by kernel_rfl) ?_
  all_goals intro V0 hV0
  all_goals rw [← HW8.out] at hV0
  · 
    have hb8 : Below w8.heap.size w8 V0 := by rw [hV0]; exact (Below.refl _ _).drew
    have K0 : Blk V0 b (paRow g va vf kind a fields c d fold { p with fin := true }) 88 := HK8.out.call hb8
    have h0 := PaAt.pls K0 (B := 0) (vl := va)
    have HB8 := Lib.hid hb8
    have HK0 := Lib.hid K0
    clear hV0 hb8 K0
    refine wpAnyH_take (i := 0) (v := .pointer (some ⟨b, 0, none⟩)) rfl (by kernel_rfl) (by kernel_rfl) (by kernel_rfl) (fun _ _ _ h => h) (Or.inl ⟨by kernel_rfl, ?hy1⟩) h0 ?rest1
    case hy1 =>
      intro v hv
      clear hv
      go_simp
    (try simp only [Act.put, List.setIfInBounds_toArray, List.set_cons_zero, List.set_cons_succ])
    refine wpAnyH_take (i := 1) (v := .pointer (some ⟨b, 0, none⟩)) rfl (by kernel_rfl) (by kernel_rfl) (by kernel_rfl) (fun _ _ _ h => h) (Or.inl ⟨by kernel_rfl, ?hy2⟩) h0 ?rest2
    case hy2 =>
      intro v hv
      clear hv
      go_simp
    (try simp only [Act.put, List.setIfInBounds_toArray, List.set_cons_zero, List.set_cons_succ])
    refine wpAnyH_take (i := 2) (v := .pointer (some ⟨b, 0, none⟩)) rfl (by kernel_rfl) (by kernel_rfl) (by kernel_rfl) (fun _ _ _ h => h) (Or.inl ⟨by kernel_rfl, ?hy3⟩) h0 ?rest3
    case hy3 =>
      intro v hv
      clear hv
      go_simp
    (try simp only [Act.put, List.setIfInBounds_toArray, List.set_cons_zero, List.set_cons_succ])
    refine wpAnyH_take (i := 3) (v := .pointer (some ⟨b, 0, none⟩)) rfl (by kernel_rfl) (by kernel_rfl) (by kernel_rfl) (fun _ _ _ h => h) (Or.inl ⟨by kernel_rfl, ?hy4⟩) h0 ?rest4
    case hy4 =>
      intro v hv
      clear hv
      go_simp
    (try simp only [Act.put, List.setIfInBounds_toArray, List.set_cons_zero, List.set_cons_succ])
    refine wpAnyH_take (i := 4) (v := .pointer (some ⟨b, 1, none⟩)) rfl (by kernel_rfl) (by kernel_rfl) (by kernel_rfl) (fun _ _ _ h => h) (Or.inl ⟨by kernel_rfl, ?hy5⟩) h0 ?rest5
    case hy5 =>
      intro v hv
      clear hv
      go_simp
    (try simp only [Act.put, List.setIfInBounds_toArray, List.set_cons_zero, List.set_cons_succ])
    refine wpAnyH_take (i := 5) (v := .int .i64 kind) rfl (by kernel_rfl) (by kernel_rfl) (by kernel_rfl) (fun _ _ _ h => h) (Or.inl ⟨by kernel_rfl, ?hy6⟩) h0 ?rest6
    case hy6 =>
      intro v hv
      have q1 := hv.c1
      clear hv
      go_simp
    (try simp only [Act.put, List.setIfInBounds_toArray, List.set_cons_zero, List.set_cons_succ])
    refine wpAnyH_take (i := 6) (v := .pointer (some ⟨b, 0, none⟩)) rfl (by kernel_rfl) (by kernel_rfl) (by kernel_rfl) (fun _ _ _ h => h) (Or.inl ⟨by kernel_rfl, ?hy7⟩) h0 ?rest7
    case hy7 =>
      intro v hv
      clear hv
      go_simp
    (try simp only [Act.put, List.setIfInBounds_toArray, List.set_cons_zero, List.set_cons_succ])
    refine wpAnyH_take (i := 7) (v := .pointer (some ⟨b, 0, none⟩)) rfl (by kernel_rfl) (by kernel_rfl) (by kernel_rfl) (fun _ _ _ h => h) (Or.inl ⟨by kernel_rfl, ?hy8⟩) h0 ?rest8
    case hy8 =>
      intro v hv
      clear hv
      go_simp
    (try simp only [Act.put, List.setIfInBounds_toArray, List.set_cons_zero, List.set_cons_succ])
    refine wpAnyH_take (i := 8) (v := .pointer (some ⟨b, 2, none⟩)) rfl (by kernel_rfl) (by kernel_rfl) (by kernel_rfl) (fun _ _ _ h => h) (Or.inl ⟨by kernel_rfl, ?hy9⟩) h0 ?rest9
    case hy9 =>
      intro v hv
      clear hv
      go_simp
    (try simp only [Act.put, List.setIfInBounds_toArray, List.set_cons_zero, List.set_cons_succ])
    refine wpAnyH_take (i := 9) (v := .agg #[.int .i64 a, .int .i64 fields, .int .i64 c, .int .i64 d, .int .i64 fold]) rfl (by kernel_rfl) (by kernel_rfl) (by kernel_rfl) (fun _ _ _ h => h) (Or.inl ⟨by kernel_rfl, ?hy10⟩) h0 ?rest10
    case hy10 =>
      intro v hv
      have q2 := hv.c2
      have q3 := hv.c3
      have q4 := hv.c4
      have q5 := hv.c5
      have q6 := hv.c6
      clear hv
      go_simp
    (try simp only [Act.put, List.setIfInBounds_toArray, List.set_cons_zero, List.set_cons_succ])
    refine wpAnyH_take (i := 10) (v := .pointer (some ⟨b, 0, none⟩)) rfl (by kernel_rfl) (by kernel_rfl) (by kernel_rfl) (fun _ _ _ h => h) (Or.inl ⟨by kernel_rfl, ?hy11⟩) h0 ?rest11
    case hy11 =>
      intro v hv
      clear hv
      go_simp
    (try simp only [Act.put, List.setIfInBounds_toArray, List.set_cons_zero, List.set_cons_succ])
    refine wpAnyH_take (i := 11) (v := .pointer (some ⟨b, 0, none⟩)) rfl (by kernel_rfl) (by kernel_rfl) (by kernel_rfl) (fun _ _ _ h => h) (Or.inl ⟨by kernel_rfl, ?hy12⟩) h0 ?rest12
    case hy12 =>
      intro v hv
      clear hv
      go_simp
    (try simp only [Act.put, List.setIfInBounds_toArray, List.set_cons_zero, List.set_cons_succ])
    refine wpAnyH_take (i := 12) (v := .pointer (some ⟨b, 7, none⟩)) rfl (by kernel_rfl) (by kernel_rfl) (by kernel_rfl) (fun _ _ _ h => h) (Or.inl ⟨by kernel_rfl, ?hy13⟩) h0 ?rest13
    case hy13 =>
      intro v hv
      clear hv
      go_simp
    (try simp only [Act.put, List.setIfInBounds_toArray, List.set_cons_zero, List.set_cons_succ])
    refine wpAnyH_take (i := 13) (v := va) rfl (by kernel_rfl) (by kernel_rfl) (by kernel_rfl) (fun _ _ _ h => h) (Or.inl ⟨by kernel_rfl, ?hy14⟩) h0 ?rest14
    case hy14 =>
      intro v hv
      have q7 := hv.c7
      clear hv
      go_simp
    (try simp only [Act.put, List.setIfInBounds_toArray, List.set_cons_zero, List.set_cons_succ])
    refine wpAnyH_ready (rs := [14]) (by kernel_rfl) (by simp) ?_
    refine AllReadyH.cons rfl (fun K hK => ?_) AllReadyH.nil
    go_simp
    refine (HP8.out _ HB8.out).mono ?_
    rintro e V1 ⟨f, rfl, hof, hb1⟩
    obtain ⟨pf, cf, rfl⟩ := own_slice hof
    simp only [Hd.row] at hof ⊢
    have K1 : Blk V1 b (paRow g va vf kind a fields c d fold { p with fin := true }) 88 := HK0.out.call hb1
    have h1 := PaAt.pls K1 (B := 0) (vl := va)
    have HK1 := Lib.hid K1
    have HO1 := Lib.hid hof
    have HB1 := Lib.hid hb1
    clear hof hb1 h0 K1
    refine hK _ _ h1 (fun _ => ?_)
    clear hK K
    (try simp only [Act.put, List.setIfInBounds_toArray, List.set_cons_zero, List.set_cons_succ])
    refine wpAnyH_take (i := 15) (v := .tuple #[.agg #[.string qm, .string qt, .int .i64 qk, .int .i64 qn, .string qr, .slice pf qf.length cf], .int .i64 qe]) rfl (by kernel_rfl) (by kernel_rfl) (by kernel_rfl) (fun _ _ _ h => h) (Or.inl ⟨by kernel_rfl, ?hy15⟩) h1 ?rest15
    case hy15 =>
      intro v hv
      clear hv
      go_simp
    (try simp only [Act.put, List.setIfInBounds_toArray, List.set_cons_zero, List.set_cons_succ])
    refine wpAnyH_take (i := 16) (v := .agg #[.string qm, .string qt, .int .i64 qk, .int .i64 qn, .string qr, .slice pf qf.length cf]) rfl (by kernel_rfl) (by kernel_rfl) (by kernel_rfl) (fun _ _ _ h => h) (Or.inl ⟨by kernel_rfl, ?hy16⟩) h1 ?rest16
    case hy16 =>
      intro v hv
      clear hv
      go_simp
    (try simp only [Act.put, List.setIfInBounds_toArray, List.set_cons_zero, List.set_cons_succ])
    refine wpAnyH_take (i := 17) (v := .int .i64 qe) rfl (by kernel_rfl) (by kernel_rfl) (by kernel_rfl) (fun _ _ _ h => h) (Or.inl ⟨by kernel_rfl, ?hy17⟩) h1 ?rest17
    case hy17 =>
      intro v hv
      clear hv
      go_simp
    (try simp only [Act.put, List.setIfInBounds_toArray, List.set_cons_zero, List.set_cons_succ])
    refine wpAnyH_take (i := 18) (v := .pointer (some ⟨b, 0, none⟩)) rfl (by kernel_rfl) (by kernel_rfl) (by kernel_rfl) (fun _ _ _ h => h) (Or.inl ⟨by kernel_rfl, ?hy18⟩) h1 ?rest18
    case hy18 =>
      intro v hv
      clear hv
      go_simp
    (try simp only [Act.put, List.setIfInBounds_toArray, List.set_cons_zero, List.set_cons_succ])
    refine wpAnyH_take (i := 19) (v := .pointer (some ⟨b, 9, none⟩)) rfl (by kernel_rfl) (by kernel_rfl) (by kernel_rfl) (fun _ _ _ h => h) (Or.inl ⟨by kernel_rfl, ?hy19⟩) h1 ?rest19
    case hy19 =>
      intro v hv
      clear hv
      go_simp
    (try simp only [Act.put, List.setIfInBounds_toArray, List.set_cons_zero, List.set_cons_succ])
    refine wpAnyH_ready (rs := [20]) (by kernel_rfl) (by simp) ?_
    refine AllReadyH.cons rfl (fun K hK => ?_) AllReadyH.nil
    have K1 := HK1.out
    have z9 : V1.frozen? ⟨b, 9, none⟩ = false := K1.froz 9
    have z10 : V1.frozen? ⟨b, 10, none⟩ = false := K1.froz 10
    have z11 : V1.frozen? ⟨b, 11, none⟩ = false := K1.froz 11
    have z12 : V1.frozen? ⟨b, 12, none⟩ = false := K1.froz 12
    have z13 : V1.frozen? ⟨b, 13, none⟩ = false := K1.froz 13
    have z14 : V1.frozen? ⟨b, 14, none⟩ = false := K1.froz 14
    have y9 : V1.cell? ⟨b, 9, none⟩ = some (.string p.hd.m) := K1.cell 9
    have y10 : V1.cell? ⟨b, 10, none⟩ = some (.string p.hd.t) := K1.cell 10
    have y11 : V1.cell? ⟨b, 11, none⟩ = some (.int .i64 p.hd.k) := K1.cell 11
    have y12 : V1.cell? ⟨b, 12, none⟩ = some (.int .i64 p.hd.n) := K1.cell 12
    have y13 : V1.cell? ⟨b, 13, none⟩ = some (.string p.hd.r) := K1.cell 13
    have y14 : V1.cell? ⟨b, 14, none⟩ = some vf := K1.cell 14
    go_simp
    clear K1 z9 y9 z10 y10 z11 y11 z12 y12 z13 y13 z14 y14
    have K2 := blk_setH HK1.out ⟨qm, qt, qk, qn, qr, qf⟩ (.slice pf qf.length cf)
    have h2 := PaAt.pls K2 (B := 0) (vl := va)
    have HK2 := Lib.hid K2
    clear K2 h1
    refine hK _ _ h2 (fun _ => ?_)
    clear hK K
    (try simp only [Act.put, List.setIfInBounds_toArray, List.set_cons_zero, List.set_cons_succ])
    have T2 : Touch (fun j => j = b) V1 ((((((V1.setCell ⟨b, 9, none⟩ (.string qm)).setCell ⟨b, 10, none⟩ (.string qt)).setCell ⟨b, 11, none⟩ (.int .i64 qk)).setCell ⟨b, 12, none⟩ (.int .i64 qn)).setCell ⟨b, 13, none⟩ (.string qr)).setCell ⟨b, 14, none⟩ (.slice pf qf.length cf)) := touch_setH V1 b ⟨qm, qt, qk, qn, qr, qf⟩ (.slice pf qf.length cf)
    have HT2 := Lib.hid T2
    clear T2
    unfold setH at HK2 h2
    simp only at HK2 h2
    generalize ((((((V1.setCell ⟨b, 9, none⟩ (.string qm)).setCell ⟨b, 10, none⟩ (.string qt)).setCell ⟨b, 11, none⟩ (.int .i64 qk)).setCell ⟨b, 12, none⟩ (.int .i64 qn)).setCell ⟨b, 13, none⟩ (.string qr)).setCell ⟨b, 14, none⟩ (.slice pf qf.length cf)) = V2 at HK2 h2 HT2 ⊢
    refine wpAnyH_take (i := 21) (v := .pointer (some ⟨b, 0, none⟩)) rfl (by kernel_rfl) (by kernel_rfl) (by kernel_rfl) (fun _ _ _ h => h) (Or.inl ⟨by kernel_rfl, ?hy20⟩) h2 ?rest20
    case hy20 =>
      intro v hv
      clear hv
      go_simp
    (try simp only [Act.put, List.setIfInBounds_toArray, List.set_cons_zero, List.set_cons_succ])
    refine wpAnyH_take (i := 22) (v := .pointer (some ⟨b, 15, none⟩)) rfl (by kernel_rfl) (by kernel_rfl) (by kernel_rfl) (fun _ _ _ h => h) (Or.inl ⟨by kernel_rfl, ?hy21⟩) h2 ?rest21
    case hy21 =>
      intro v hv
      clear hv
      go_simp
    (try simp only [Act.put, List.setIfInBounds_toArray, List.set_cons_zero, List.set_cons_succ])
    refine wpAnyH_ready (rs := [23]) (by kernel_rfl) (by simp) ?_
    refine AllReadyH.cons rfl (fun K hK => ?_) AllReadyH.nil
    have K2 := HK2.out
    have z15 : V2.frozen? ⟨b, 15, none⟩ = false := K2.froz 15
    have y15 : V2.cell? ⟨b, 15, none⟩ = some (.int .i64 p.e) := K2.cell 15
    go_simp
    clear K2 y15 z15
    have h3 := PaAt.pls (HK2.out.set 15 (.int .i64 qe)) (B := 0) (vl := va) (p := { p with fin := true, hd := ⟨qm, qt, qk, qn, qr, qf⟩, e := qe }) (vf := .slice pf qf.length cf) (g := g)
    refine hK _ _ h3 (fun _ => ?_)
    clear hK K h3 h2
    (try simp only [Act.put, List.setIfInBounds_toArray, List.set_cons_zero, List.set_cons_succ])
    refine wpAnyH_done (by kernel_rfl) ?_ _
    go_wp2_with fail
    go_end0
    have hb := HH.out.lt
    have hsz := HH.out.l.sz
    have T0 : Touch (fun j => j = b) w8 V2 := ((Touch.of_below HB8.out).trans (Touch.of_below HB1.out)).trans HT2.out
    have T3 : Touch (fun j => j = b) w8 (V2.setCell ⟨b, 15, none⟩ (.int .i64 qe)) := T0.setCell (p := ⟨b, 15, none⟩) rfl _
    have T4 : Touch (fun j => j = b) V1 (V2.setCell ⟨b, 15, none⟩ (.int .i64 qe)) := HT2.out.setCell (p := ⟨b, 15, none⟩) rfl _
    have hB : ∀ k, B ≤ k → ¬ k = b := fun k hk e => by omega
    have hs8 := HT8.out.size
    have hs0 := HB8.out.size
    exact ⟨rfl, .slice pf qf.length cf, ⟨HK2.out.set 15 (.int .i64 qe), HL8.out.touch T3 (fun e => HH.out.ne e.symm) (fun k hk => hB k (HL8.out.o.lt k hk).1), own_touch HO8.out T3 (fun k hk => hB k (OwnS.lt HO8.out k hk).1), own_touch (OwnF.lower HO1.out (by omega)) T4 (fun k hk => hB k (OwnF.lt (OwnF.lower HO1.out (show B ≤ V0.heap.size by omega)) k hk).1), fun e => (by cases e), hb, HH.out.ne, HH.out.b0, HH.out.g0, HH.out.n⟩, HT8.out.trans T3⟩
  · 
    have hb8 : Below w8.heap.size w8 V0 := by rw [hV0]; exact (Below.refl _ _).drew
    have K0 : Blk V0 b (paRow g va vf kind a fields c d fold { p with fin := true }) 88 := HK8.out.call hb8
    have h0 := PaAt.pls K0 (B := 0) (vl := va)
    have HB8 := Lib.hid hb8
    have HK0 := Lib.hid K0
    clear hV0 hb8 K0
    refine wpAnyH_take (i := 0) (v := .pointer (some ⟨b, 0, none⟩)) rfl (by kernel_rfl) (by kernel_rfl) (by kernel_rfl) (fun _ _ _ h => h) (Or.inl ⟨by kernel_rfl, ?hz1⟩) h0 ?resu1
    case hz1 =>
      intro v hv
      clear hv
      go_simp
    (try simp only [Act.put, List.setIfInBounds_toArray, List.set_cons_zero, List.set_cons_succ])
    refine wpAnyH_take (i := 1) (v := .pointer (some ⟨b, 0, none⟩)) rfl (by kernel_rfl) (by kernel_rfl) (by kernel_rfl) (fun _ _ _ h => h) (Or.inl ⟨by kernel_rfl, ?hz2⟩) h0 ?resu2
    case hz2 =>
      intro v hv
      clear hv
      go_simp
    (try simp only [Act.put, List.setIfInBounds_toArray, List.set_cons_zero, List.set_cons_succ])
    refine wpAnyH_take (i := 2) (v := .pointer (some ⟨b, 0, none⟩)) rfl (by kernel_rfl) (by kernel_rfl) (by kernel_rfl) (fun _ _ _ h => h) (Or.inl ⟨by kernel_rfl, ?hz3⟩) h0 ?resu3
    case hz3 =>
      intro v hv
      clear hv
      go_simp
    (try simp only [Act.put, List.setIfInBounds_toArray, List.set_cons_zero, List.set_cons_succ])
    refine wpAnyH_take (i := 3) (v := .pointer (some ⟨b, 0, none⟩)) rfl (by kernel_rfl) (by kernel_rfl) (by kernel_rfl) (fun _ _ _ h => h) (Or.inl ⟨by kernel_rfl, ?hz4⟩) h0 ?resu4
    case hz4 =>
      intro v hv
      clear hv
      go_simp
    (try simp only [Act.put, List.setIfInBounds_toArray, List.set_cons_zero, List.set_cons_succ])
    refine wpAnyH_take (i := 4) (v := .pointer (some ⟨b, 1, none⟩)) rfl (by kernel_rfl) (by kernel_rfl) (by kernel_rfl) (fun _ _ _ h => h) (Or.inl ⟨by kernel_rfl, ?hz5⟩) h0 ?resu5
    case hz5 =>
      intro v hv
      clear hv
      go_simp
    (try simp only [Act.put, List.setIfInBounds_toArray, List.set_cons_zero, List.set_cons_succ])
    refine wpAnyH_take (i := 5) (v := .int .i64 kind) rfl (by kernel_rfl) (by kernel_rfl) (by kernel_rfl) (fun _ _ _ h => h) (Or.inl ⟨by kernel_rfl, ?hz6⟩) h0 ?resu6
    case hz6 =>
      intro v hv
      have q1 := hv.c1
      clear hv
      go_simp
    (try simp only [Act.put, List.setIfInBounds_toArray, List.set_cons_zero, List.set_cons_succ])
    refine wpAnyH_take (i := 6) (v := .pointer (some ⟨b, 0, none⟩)) rfl (by kernel_rfl) (by kernel_rfl) (by kernel_rfl) (fun _ _ _ h => h) (Or.inl ⟨by kernel_rfl, ?hz7⟩) h0 ?resu7
    case hz7 =>
      intro v hv
      clear hv
      go_simp
    (try simp only [Act.put, List.setIfInBounds_toArray, List.set_cons_zero, List.set_cons_succ])
    refine wpAnyH_take (i := 7) (v := .pointer (some ⟨b, 0, none⟩)) rfl (by kernel_rfl) (by kernel_rfl) (by kernel_rfl) (fun _ _ _ h => h) (Or.inl ⟨by kernel_rfl, ?hz8⟩) h0 ?resu8
    case hz8 =>
      intro v hv
      clear hv
      go_simp
    (try simp only [Act.put, List.setIfInBounds_toArray, List.set_cons_zero, List.set_cons_succ])
    refine wpAnyH_take (i := 8) (v := .pointer (some ⟨b, 2, none⟩)) rfl (by kernel_rfl) (by kernel_rfl) (by kernel_rfl) (fun _ _ _ h => h) (Or.inl ⟨by kernel_rfl, ?hz9⟩) h0 ?resu9
    case hz9 =>
      intro v hv
      clear hv
      go_simp
    (try simp only [Act.put, List.setIfInBounds_toArray, List.set_cons_zero, List.set_cons_succ])
    refine wpAnyH_take (i := 9) (v := .agg #[.int .i64 a, .int .i64 fields, .int .i64 c, .int .i64 d, .int .i64 fold]) rfl (by kernel_rfl) (by kernel_rfl) (by kernel_rfl) (fun _ _ _ h => h) (Or.inl ⟨by kernel_rfl, ?hz10⟩) h0 ?resu10
    case hz10 =>
      intro v hv
      have q2 := hv.c2
      have q3 := hv.c3
      have q4 := hv.c4
      have q5 := hv.c5
      have q6 := hv.c6
      clear hv
      go_simp
    (try simp only [Act.put, List.setIfInBounds_toArray, List.set_cons_zero, List.set_cons_succ])
    refine wpAnyH_take (i := 10) (v := .pointer (some ⟨b, 0, none⟩)) rfl (by kernel_rfl) (by kernel_rfl) (by kernel_rfl) (fun _ _ _ h => h) (Or.inl ⟨by kernel_rfl, ?hz11⟩) h0 ?resu11
    case hz11 =>
      intro v hv
      clear hv
      go_simp
    (try simp only [Act.put, List.setIfInBounds_toArray, List.set_cons_zero, List.set_cons_succ])
    refine wpAnyH_take (i := 11) (v := .pointer (some ⟨b, 0, none⟩)) rfl (by kernel_rfl) (by kernel_rfl) (by kernel_rfl) (fun _ _ _ h => h) (Or.inl ⟨by kernel_rfl, ?hz12⟩) h0 ?resu12
    case hz12 =>
      intro v hv
      clear hv
      go_simp
    (try simp only [Act.put, List.setIfInBounds_toArray, List.set_cons_zero, List.set_cons_succ])
    refine wpAnyH_take (i := 12) (v := .pointer (some ⟨b, 7, none⟩)) rfl (by kernel_rfl) (by kernel_rfl) (by kernel_rfl) (fun _ _ _ h => h) (Or.inl ⟨by kernel_rfl, ?hz13⟩) h0 ?resu13
    case hz13 =>
      intro v hv
      clear hv
      go_simp
    (try simp only [Act.put, List.setIfInBounds_toArray, List.set_cons_zero, List.set_cons_succ])
    refine wpAnyH_take (i := 13) (v := va) rfl (by kernel_rfl) (by kernel_rfl) (by kernel_rfl) (fun _ _ _ h => h) (Or.inl ⟨by kernel_rfl, ?hz14⟩) h0 ?resu14
    case hz14 =>
      intro v hv
      have q7 := hv.c7
      clear hv
      go_simp
    (try simp only [Act.put, List.setIfInBounds_toArray, List.set_cons_zero, List.set_cons_succ])
    refine wpAnyH_ready (rs := [14]) (by kernel_rfl) (by simp) ?_
    refine AllReadyH.cons rfl (fun K hK => ?_) AllReadyH.nil
    go_simp
    refine (HP8.out _ HB8.out).mono ?_
    rintro e V1 ⟨f, rfl, hof, hb1⟩
    obtain ⟨pf, cf, rfl⟩ := own_slice hof
    simp only [Hd.row] at hof ⊢
    have K1 : Blk V1 b (paRow g va vf kind a fields c d fold { p with fin := true }) 88 := HK0.out.call hb1
    have h1 := PaAt.pls K1 (B := 0) (vl := va)
    have HK1 := Lib.hid K1
    have HO1 := Lib.hid hof
    have HB1 := Lib.hid hb1
    clear hof hb1 h0 K1
    refine hK _ _ h1 (fun _ => ?_)
    clear hK K
    (try simp only [Act.put, List.setIfInBounds_toArray, List.set_cons_zero, List.set_cons_succ])
    refine wpAnyH_take (i := 15) (v := .tuple #[.agg #[.string qm, .string qt, .int .i64 qk, .int .i64 qn, .string qr, .slice pf qf.length cf], .int .i64 qe]) rfl (by kernel_rfl) (by kernel_rfl) (by kernel_rfl) (fun _ _ _ h => h) (Or.inl ⟨by kernel_rfl, ?hz15⟩) h1 ?resu15
    case hz15 =>
      intro v hv
      clear hv
      go_simp
    (try simp only [Act.put, List.setIfInBounds_toArray, List.set_cons_zero, List.set_cons_succ])
    refine wpAnyH_take (i := 16) (v := .agg #[.string qm, .string qt, .int .i64 qk, .int .i64 qn, .string qr, .slice pf qf.length cf]) rfl (by kernel_rfl) (by kernel_rfl) (by kernel_rfl) (fun _ _ _ h => h) (Or.inl ⟨by kernel_rfl, ?hz16⟩) h1 ?resu16
    case hz16 =>
      intro v hv
      clear hv
      go_simp
    (try simp only [Act.put, List.setIfInBounds_toArray, List.set_cons_zero, List.set_cons_succ])
    refine wpAnyH_take (i := 17) (v := .int .i64 qe) rfl (by kernel_rfl) (by kernel_rfl) (by kernel_rfl) (fun _ _ _ h => h) (Or.inl ⟨by kernel_rfl, ?hz17⟩) h1 ?resu17
    case hz17 =>
      intro v hv
      clear hv
      go_simp
    (try simp only [Act.put, List.setIfInBounds_toArray, List.set_cons_zero, List.set_cons_succ])
    refine wpAnyH_take (i := 18) (v := .pointer (some ⟨b, 0, none⟩)) rfl (by kernel_rfl) (by kernel_rfl) (by kernel_rfl) (fun _ _ _ h => h) (Or.inl ⟨by kernel_rfl, ?hz18⟩) h1 ?resu18
    case hz18 =>
      intro v hv
      clear hv
      go_simp
    (try simp only [Act.put, List.setIfInBounds_toArray, List.set_cons_zero, List.set_cons_succ])
    refine wpAnyH_take (i := 19) (v := .pointer (some ⟨b, 9, none⟩)) rfl (by kernel_rfl) (by kernel_rfl) (by kernel_rfl) (fun _ _ _ h => h) (Or.inl ⟨by kernel_rfl, ?hz19⟩) h1 ?resu19
    case hz19 =>
      intro v hv
      clear hv
      go_simp
    (try simp only [Act.put, List.setIfInBounds_toArray, List.set_cons_zero, List.set_cons_succ])
    refine wpAnyH_ready (rs := [20]) (by kernel_rfl) (by simp) ?_
    refine AllReadyH.cons rfl (fun K hK => ?_) AllReadyH.nil
    have K1 := HK1.out
    have z9 : V1.frozen? ⟨b, 9, none⟩ = false := K1.froz 9
    have z10 : V1.frozen? ⟨b, 10, none⟩ = false := K1.froz 10
    have z11 : V1.frozen? ⟨b, 11, none⟩ = false := K1.froz 11
    have z12 : V1.frozen? ⟨b, 12, none⟩ = false := K1.froz 12
    have z13 : V1.frozen? ⟨b, 13, none⟩ = false := K1.froz 13
    have z14 : V1.frozen? ⟨b, 14, none⟩ = false := K1.froz 14
    have y9 : V1.cell? ⟨b, 9, none⟩ = some (.string p.hd.m) := K1.cell 9
    have y10 : V1.cell? ⟨b, 10, none⟩ = some (.string p.hd.t) := K1.cell 10
    have y11 : V1.cell? ⟨b, 11, none⟩ = some (.int .i64 p.hd.k) := K1.cell 11
    have y12 : V1.cell? ⟨b, 12, none⟩ = some (.int .i64 p.hd.n) := K1.cell 12
    have y13 : V1.cell? ⟨b, 13, none⟩ = some (.string p.hd.r) := K1.cell 13
    have y14 : V1.cell? ⟨b, 14, none⟩ = some vf := K1.cell 14
    go_simp
    clear K1 z9 y9 z10 y10 z11 y11 z12 y12 z13 y13 z14 y14
    have K2 := blk_setH HK1.out ⟨qm, qt, qk, qn, qr, qf⟩ (.slice pf qf.length cf)
    have h2 := PaAt.pls K2 (B := 0) (vl := va)
    have HK2 := Lib.hid K2
    clear K2 h1
    refine hK _ _ h2 (fun _ => ?_)
    clear hK K
    (try simp only [Act.put, List.setIfInBounds_toArray, List.set_cons_zero, List.set_cons_succ])
    have T2 : Touch (fun j => j = b) V1 ((((((V1.setCell ⟨b, 9, none⟩ (.string qm)).setCell ⟨b, 10, none⟩ (.string qt)).setCell ⟨b, 11, none⟩ (.int .i64 qk)).setCell ⟨b, 12, none⟩ (.int .i64 qn)).setCell ⟨b, 13, none⟩ (.string qr)).setCell ⟨b, 14, none⟩ (.slice pf qf.length cf)) := touch_setH V1 b ⟨qm, qt, qk, qn, qr, qf⟩ (.slice pf qf.length cf)
    have HT2 := Lib.hid T2
    clear T2
    unfold setH at HK2 h2
    simp only at HK2 h2
    generalize ((((((V1.setCell ⟨b, 9, none⟩ (.string qm)).setCell ⟨b, 10, none⟩ (.string qt)).setCell ⟨b, 11, none⟩ (.int .i64 qk)).setCell ⟨b, 12, none⟩ (.int .i64 qn)).setCell ⟨b, 13, none⟩ (.string qr)).setCell ⟨b, 14, none⟩ (.slice pf qf.length cf)) = V2 at HK2 h2 HT2 ⊢
    refine wpAnyH_take (i := 21) (v := .pointer (some ⟨b, 0, none⟩)) rfl (by kernel_rfl) (by kernel_rfl) (by kernel_rfl) (fun _ _ _ h => h) (Or.inl ⟨by kernel_rfl, ?hz20⟩) h2 ?resu20
    case hz20 =>
      intro v hv
      clear hv
      go_simp
    (try simp only [Act.put, List.setIfInBounds_toArray, List.set_cons_zero, List.set_cons_succ])
    refine wpAnyH_take (i := 22) (v := .pointer (some ⟨b, 15, none⟩)) rfl (by kernel_rfl) (by kernel_rfl) (by kernel_rfl) (fun _ _ _ h => h) (Or.inl ⟨by kernel_rfl, ?hz21⟩) h2 ?resu21
    case hz21 =>
      intro v hv
      clear hv
      go_simp
    (try simp only [Act.put, List.setIfInBounds_toArray, List.set_cons_zero, List.set_cons_succ])
    refine wpAnyH_ready (rs := [23]) (by kernel_rfl) (by simp) ?_
    refine AllReadyH.cons rfl (fun K hK => ?_) AllReadyH.nil
    have K2 := HK2.out
    have z15 : V2.frozen? ⟨b, 15, none⟩ = false := K2.froz 15
    have y15 : V2.cell? ⟨b, 15, none⟩ = some (.int .i64 p.e) := K2.cell 15
    go_simp
    clear K2 y15 z15
    have h3 := PaAt.pls (HK2.out.set 15 (.int .i64 qe)) (B := 0) (vl := va) (p := { p with fin := true, hd := ⟨qm, qt, qk, qn, qr, qf⟩, e := qe }) (vf := .slice pf qf.length cf) (g := g)
    refine hK _ _ h3 (fun _ => ?_)
    clear hK K h3 h2
    (try simp only [Act.put, List.setIfInBounds_toArray, List.set_cons_zero, List.set_cons_succ])
    refine wpAnyH_done (by kernel_rfl) ?_ _
    go_wp2_with fail
    go_end0
    have hb := HH.out.lt
    have hsz := HH.out.l.sz
    have T0 : Touch (fun j => j = b) w8 V2 := ((Touch.of_below HB8.out).trans (Touch.of_below HB1.out)).trans HT2.out
    have T3 : Touch (fun j => j = b) w8 (V2.setCell ⟨b, 15, none⟩ (.int .i64 qe)) := T0.setCell (p := ⟨b, 15, none⟩) rfl _
    have T4 : Touch (fun j => j = b) V1 (V2.setCell ⟨b, 15, none⟩ (.int .i64 qe)) := HT2.out.setCell (p := ⟨b, 15, none⟩) rfl _
    have hB : ∀ k, B ≤ k → ¬ k = b := fun k hk e => by omega
    have hs8 := HT8.out.size
    have hs0 := HB8.out.size
    exact ⟨rfl, .slice pf qf.length cf, ⟨HK2.out.set 15 (.int .i64 qe), HL8.out.touch T3 (fun e => HH.out.ne e.symm) (fun k hk => hB k (HL8.out.o.lt k hk).1), own_touch HO8.out T3 (fun k hk => hB k (OwnS.lt HO8.out k hk).1), own_touch (OwnF.lower HO1.out (by omega)) T4 (fun k hk => hB k (OwnF.lt (OwnF.lower HO1.out (show B ≤ V0.heap.size by omega)) k hk).1), fun e => (by cases e), hb, HH.out.ne, HH.out.b0, HH.out.g0, HH.out.n⟩, HT8.out.trans T3⟩
end Go.Proofs.YtmoofcmmpemdcaaGreatDoor
namespace Go.Proofs.YtmoofcmmpemdcaaGreatDoor
open Go.RowKit
theorem pline_any {w : World} {b g B : Nat} {vl va vf : Value} {kind a fields c d fold : Int} {p : PaS} (h : PaAt w b g B vl va vf kind a fields c d fold p) (hf : p.fin = false) (hfi : -9223372036854775808 ≤ fields ∧ fields ≤ 9223372036854775807) {mx : Int} (hm : w.cell? ⟨0, 0, none⟩ = some (.int .i64 mx)) (hl : p.all.length ≤ 100000) (ht : tot p.all ≤ 100000) (s : ByteArray) :
    Calls Tryz.prog 69 #[.pointer (some ⟨b, 0, none⟩), .string s] w fun e w' => e = .returned (.tuple #[]) ∧ ∃ va' vf', PaAt w' b g B vl va' vf' kind a fields c d fold (lineP kind fields fold p s) ∧ Touch (PaP b g vl va) w w' ∧ (va'.ownBlock = va.ownBlock ∨ ∀ k, va'.ownBlock = some k → w.heap.size ≤ k) := by
  by_cases hs : s.size = 0
  · have he : s = ⟨#[]⟩ := by
      obtain ⟨⟨l⟩⟩ := s
      cases l with
      | nil => rfl
      | cons x r => exact absurd hs (by show ¬ (r.length + 1 = 0); omega)
    subst he
    by_cases hk : p.all ≠ [] ∨ kind = 2
    · refine (pline_end h hf hfi hm hl ht hk).mono ?_
      rintro e w' ⟨rfl, vf', hp, t⟩
      refine ⟨rfl, va, vf', ?_, t.mono (fun k _ e => Or.inl e), Or.inl rfl⟩
      unfold lineP
      rw [if_neg (by simp [hs]), if_pos hk]
      exact hp
    · have h1 : p.all = [] := Decidable.not_not.1 (fun e => hk (Or.inl e))
      have h2 : kind ≠ 2 := fun e => hk (Or.inr e)
      refine (pline_skip h h1 h2).mono ?_
      rintro e w' ⟨rfl, rfl⟩
      refine ⟨rfl, va, vf, ?_, Touch.refl _ _, Or.inl rfl⟩
      unfold lineP
      rw [if_neg (by simp [hs]), if_neg hk]
      exact h
  · refine (pline_some h hf s hs hl).mono ?_
    rintro e w' ⟨rfl, va', hp, t, hb⟩
    refine ⟨rfl, va', vf, ?_, t, hb⟩
    unfold lineP
    rw [if_pos hs]
    exact hp
/-- Lines that did something. -/
theorem PaAt.lines {w w1 : World} {b g B : Nat} {vl vl1 va vf : Value} {kind a fields c d fold : Int} {p : PaS} {s : LnS} (h : PaAt w b g B vl va vf kind a fields c d fold p) (hf : p.fin = false) (hl : LnAt w1 g B vl1 s) (t : Touch (LnP g vl) w w1) (hb : vl1.ownBlock = vl.ownBlock ∨ ∀ k, vl1.ownBlock = some k → w.heap.size ≤ k) : PaAt w1 b g B vl1 va vf kind a fields c d fold { p with ln := s } := by
  have hz := h.z hf
  have hb1 := h.lt
  have hg1 := h.l.lt
  have hnb : ¬ LnP g vl b := by
    rintro (e | e)
    · exact h.ne e
    · have := (h.l.o.lt b e).1
      omega
  have hna : ∀ k, va.ownBlock = some k → ¬ LnP g vl k := by
    rintro k hk (e | e)
    · have := (h.o.lt k hk).1
      omega
    · exact h.n k e hk
  refine ⟨h.k.touch t hnb, hl, own_touch h.o t hna, ?_, h.z, h.lt, h.ne, h.b0, h.g0, ?_⟩
  · rw [show ({ p with ln := s } : PaS).hd = hd0 from hz.2, hz.1]
    exact OwnF.start _ _
  · intro k hk e
    rcases hb with hb | hb
    · exact h.n k (hb ▸ hk) e
    · have := hb k hk
      have := (h.o.lt k e).2
      omega
theorem PaAt.setE {w : World} {b g B : Nat} {vl va vf : Value} {kind a fields c d fold : Int} {p : PaS} (h : PaAt w b g B vl va vf kind a fields c d fold p) (e : Int) : PaAt (w.setCell ⟨b, 15, none⟩ (.int .i64 e)) b g B vl va vf kind a fields c d fold { p with e := e } := by
  have T := (Touch.refl (fun j => j = b) w).setCell (p := ⟨b, 15, none⟩) rfl (.int .i64 e)
  have hB : ∀ k, B ≤ k → ¬ k = b := fun k hk e => by have := h.lt; omega
  exact ⟨h.k.set 15 (.int .i64 e), h.l.touch T (fun e => h.ne e.symm) (fun k hk => hB k (h.l.o.lt k hk).1), own_touch h.o T (fun k hk => hB k (h.o.lt k hk).1), own_touch h.f T (fun k hk => hB k (h.f.lt k hk).1), h.z, h.lt, h.ne, h.b0, h.g0, h.n⟩
theorem PaAt.drewN {w : World} {b g B : Nat} {vl va vf : Value} {kind a fields c d fold : Int} {p : PaS} (h : PaAt w b g B vl va vf kind a fields c d fold p) (n : Nat) : PaAt (w.drewN n) b g B vl va vf kind a fields c d fold p := ⟨h.k.drewN n, h.l.drewN n, h.o, h.f, h.z, h.lt, h.ne, h.b0, h.g0, h.n⟩
theorem pAcc_len : ∀ l : List ByteArray, (pAcc l).1.length ≤ l.length
  | [] => Nat.le_refl _
  | s :: l => by
    have ih := pAcc_len l
    unfold pAcc
    split
    · exact Nat.zero_le _
    split
    · exact Nat.zero_le _
    · simpa using ih
theorem allF_len (fold : Int) (l : List ByteArray) : (allF fold l).1.length ≤ l.length := by
  unfold allF
  cases hu : ufold fold l with
  | none => exact Nat.zero_le _
  | some out =>
    have h1 : out.length ≤ l.length := (ufold_len fold l l.length (Nat.le_refl _) out (by rw [List.take_length]; exact hu)).1
    exact Nat.le_trans (pAcc_len out) h1
theorem headP_len (kind fields fold : Int) (l : List ByteArray) : (headP kind fields fold l).1.fs.length ≤ l.length := by
  unfold headP
  split
  · exact Nat.zero_le _
  · cases l with
    | nil => exact Nat.zero_le _
    | cons s rest =>
      show (if (firstP kind s).2 ≠ 0 then (hd0, (firstP kind s).2) else if fields < (rest.length : Int) then (hd0, 4) else if (allF fold rest).2 ≠ 0 then (hd0, (allF fold rest).2) else ({ (firstP kind s).1 with fs := (allF fold rest).1 }, 0)).1.fs.length ≤ rest.length + 1
      split
      · exact Nat.zero_le _
      split
      · exact Nat.zero_le _
      split
      · exact Nat.zero_le _
      · exact Nat.le_succ_of_le (allF_len fold rest)
/-- How much a parser may hold; it awaits a line. -/
structure PaBd (p : PaS) : Prop where
  l : LnOk p.ln
  t : (p.ln.line.length + tot p.all + p.all.length : Int) ≤ p.ln.spent
  w : p.ln.whole = false
  e : p.fin = false → p.e = 0 → p.ln.e = 0
  f : p.hd.fs.length ≤ 65536
theorem PaBd.all {p : PaS} (h : PaBd p) : p.all.length ≤ 65536 ∧ tot p.all ≤ 65536 := by
  have := h.t
  have := h.l.m
  have := h.l.l0
  omega
theorem seeP_D (s : LnS) (c : UInt8) : s.spent - s.line.length + (if (seeP s c).1.whole = true ∧ s.whole = false then 1 else 0) ≤ (seeP s c).1.spent - (seeP s c).1.line.length := by
  obtain ⟨L, S, Ln, Wi, Tu, Wh, E⟩ := s
  unfold seeP
  repeat' split
  all_goals simp_all
  all_goals omega
theorem lnFeed_D : ∀ (l : List UInt8) (s : LnS), s.spent - s.line.length + (if (lnFeed l s).1.whole = true ∧ s.whole = false then 1 else 0) ≤ (lnFeed l s).1.spent - (lnFeed l s).1.line.length
  | [], s => by
    have : ¬ (s.whole = true ∧ s.whole = false) := by rintro ⟨a, b⟩; rw [a] at b; cases b
    show s.spent - s.line.length + (if s.whole = true ∧ s.whole = false then 1 else 0) ≤ s.spent - s.line.length
    rw [if_neg this]
    omega
  | c :: r, s => by
    have hn : ∀ x : LnS, ¬ (x.whole = true ∧ x.whole = false) := by rintro x ⟨a, b⟩; rw [a] at b; cases b
    rw [lnFeed]
    by_cases h1 : s.whole = true ∨ s.e ≠ 0
    · rw [if_pos h1]
      show s.spent - s.line.length + (if s.whole = true ∧ s.whole = false then 1 else 0) ≤ s.spent - s.line.length
      rw [if_neg (hn s)]
      omega
    · rw [if_neg h1]
      have hs := seeP_D s c
      by_cases h2 : (seeP s c).2 = 0
      · rw [if_pos h2]
        have ih := lnFeed_D r { (seeP s c).1 with e := 0 }
        have hw : s.whole = false := by
          cases hw : s.whole with
          | true => exact absurd (Or.inl hw) h1
          | false => rfl
        simp only [hw, and_true] at hs ⊢
        generalize (lnFeed r { (seeP s c).1 with e := 0 }).1 = q at ih ⊢
        simp only at ih
        cases hq : q.whole with
        | false =>
          simp only [hq, Bool.false_eq_true, false_and, if_false] at ih ⊢
          split at hs <;> omega
        | true =>
          cases hp : (seeP s c).1.whole with
          | true =>
            simp only [hp, if_true] at hs
            simp only [hq, hp, Bool.true_eq_false, and_false, if_false, if_true] at ih ⊢
            omega
          | false =>
            simp only [hp, Bool.false_eq_true, if_false] at hs
            simp only [hq, hp, and_self, if_true] at ih ⊢
            omega
      · rw [if_neg h2]
        exact hs
theorem lnFeed_stuck {l : List UInt8} {s : LnS} (hl : l ≠ []) (hw : s.whole = false) (he : s.e = 0) (h0 : (lnFeed l s).2 = 0) : (lnFeed l s).1.e ≠ 0 ∧ (lnFeed l s).1.whole = false := by
  cases l with
  | nil => exact absurd rfl hl
  | cons c r =>
    rw [lnFeed, if_neg (by rw [hw, he]; simp)] at h0 ⊢
    by_cases h2 : (seeP s c).2 = 0
    · rw [if_pos h2] at h0
      exact absurd h0 (Nat.succ_ne_zero _)
    · rw [if_neg h2]
      refine ⟨h2, ?_⟩
      revert h2
      unfold seeP
      repeat' split
      all_goals first
        | (intro _; exact hw)
        | (intro hs; exact absurd rfl hs)
/-- A turn of the loop keeps the bounds. -/
theorem pIter_ok (kind fields fold : Int) (l : List UInt8) {p : PaS} (h : PaBd p) : PaBd (pIter kind fields fold l p) := by
  have h1 := lnFeed_ok l p.ln h.l
  have h2 := lnFeed_D l p.ln
  have h3 := h.t
  rw [h.w] at h2
  simp only [and_true] at h2
  unfold pIter
  generalize (lnFeed l p.ln).1 = q at h1 h2 ⊢
  cases hq : q.whole with
  | true =>
    simp only [hq, if_true] at h2 ⊢
    unfold lineP
    by_cases hs : (strL q.line).size ≠ 0
    · rw [if_pos hs]
      refine ⟨⟨h1.l0, h1.s0, h1.m, ?_⟩, ?_, rfl, fun _ e => e, h.f⟩
      · have := h1.s0
        simpa using this
      · show ((0 : Nat) : Int) + tot (p.all ++ [strL q.line]) + (p.all ++ [strL q.line]).length ≤ q.spent
        rw [tot_snoc, strL_size, List.length_append]
        simp only [List.length_singleton]
        omega
    · rw [if_neg hs]
      split
      · refine ⟨⟨h1.l0, h1.s0, h1.m, by have := h1.s0; simpa using this⟩, ?_, rfl, (fun e => by cases e), Nat.le_trans (headP_len _ _ _ _) h.all.1⟩
        show ((0 : Nat) : Int) + tot p.all + p.all.length ≤ q.spent
        omega
      · refine ⟨⟨h1.l0, h1.s0, h1.m, by have := h1.s0; simpa using this⟩, ?_, rfl, fun _ e => e, h.f⟩
        show ((0 : Nat) : Int) + tot p.all + p.all.length ≤ q.spent
        omega
  | false =>
    simp only [hq, Bool.false_eq_true, if_false] at h2 ⊢
    refine ⟨h1, ?_, hq, fun _ e => e, h.f⟩
    show (q.line.length : Int) + tot p.all + p.all.length ≤ q.spent
    omega
end Go.Proofs.YtmoofcmmpemdcaaGreatDoor
namespace Go.Proofs.YtmoofcmmpemdcaaGreatDoor
open Go.RowKit
/-- A row that lies where another lay, or is new. -/
def FreshB (w : World) (v v' : Value) : Prop := v'.ownBlock = v.ownBlock ∨ ∀ k, v'.ownBlock = some k → w.heap.size ≤ k
theorem FreshB.refl (w : World) (v : Value) : FreshB w v v := Or.inl rfl
theorem FreshB.trans {w w1 : World} {v v1 v2 : Value} (h : FreshB w v v1) (hs : w.heap.size ≤ w1.heap.size) (k : FreshB w1 v1 v2) : FreshB w v v2 := by
  rcases k with k | k
  · rcases h with h | h
    · exact Or.inl (k.trans h)
    · exact Or.inr (fun j hj => h j (k ▸ hj))
  · exact Or.inr (fun j hj => Nat.le_trans hs (k j hj))
theorem paP_into {w : World} {b g : Nat} {vl va vl1 va1 : Value} (hl : FreshB w vl vl1) (ha : FreshB w va va1) : ∀ i, i < w.heap.size → PaP b g vl1 va1 i → PaP b g vl va i := by
  rintro i hi (e | e | e | e)
  · exact Or.inl e
  · exact Or.inr (Or.inl e)
  · rcases hl with hl | hl
    · exact Or.inr (Or.inr (Or.inl (hl ▸ e)))
    · exact absurd (hl i e) (by omega)
  · rcases ha with ha | ha
    · exact Or.inr (Or.inr (Or.inr (ha ▸ e)))
    · exact absurd (ha i e) (by omega)
theorem lnP_pa {b g : Nat} {vl va : Value} : ∀ i, LnP g vl i → PaP b g vl va i := by
  rintro i (e | e)
  · exact Or.inr (Or.inl e)
  · exact Or.inr (Or.inr (Or.inl e))
/-- Whether a parser holds no error. -/
def pM (b : Nat) (w : World) : Nat := match w.cell? ⟨b, 15, none⟩ with
  | some (.int _ e) => if e = 0 then 1 else 0
  | _ => 0
theorem pM_eq {b : Nat} {w : World} {e : Int} (h : w.cell? ⟨b, 15, none⟩ = some (.int .i64 e)) : pM b w = if e = 0 then 1 else 0 := by unfold pM; rw [h]
theorem extract_drop (S : ByteArray) (k : Nat) : (S.extract k S.size).data.toList = S.data.toList.drop k := by
  have h1 : (S.extract k S.size).data.toList = (S.data.toList.drop k).take (S.size - k) := by simp [ByteArray.data_extract, List.extract_eq_take_drop]
  rw [h1, List.take_of_length_le (by rw [List.length_drop, ← Lib.size_eq]; omega)]
set_option maxRecDepth 100000 in
set_option maxHeartbeats 4000000 in
theorem pfeed_any {w : World} {b g B : Nat} {vl va vf : Value} {kind a fields c d fold : Int} {p : PaS} (h : PaAt w b g B vl va vf kind a fields c d fold p) (hb : PaBd p) (hfi : -9223372036854775808 ≤ fields ∧ fields ≤ 9223372036854775807) {mx : Int} (hm : w.cell? ⟨0, 0, none⟩ = some (.int .i64 mx)) (S : ByteArray) (hS : S.size ≤ 1000000) :
    Calls Tryz.prog 29 #[.pointer (some ⟨b, 0, none⟩), .string S] w fun e w' => e = .returned (.tuple #[.int .i64 (pRun kind fields fold S.data.toList p).2, .int .i64 (pRun kind fields fold S.data.toList p).1.e]) ∧
      ∃ vl' va' vf', PaAt w' b g B vl' va' vf' kind a fields c d fold (pRun kind fields fold S.data.toList p).1 ∧ PaBd (pRun kind fields fold S.data.toList p).1 ∧ Touch (PaP b g vl va) w w' ∧ FreshB w vl vl' ∧ FreshB w va va' := by
  obtain ⟨R, hR⟩ : ∃ R, R = pRun kind fields fold S.data.toList p := ⟨_, rfl⟩
  rw [← hR]
  have hn : S.data.toList.length = S.size := (Lib.size_eq S).symm
  have hmB : ∀ W, Touch (PaP b g vl va) w W → W.cell? ⟨0, 0, none⟩ = some (.int .i64 mx) := fun W t => touch_cell t (by
    show ¬ PaP b g vl va 0
    have h1 := h.b0
    have h2 := h.g0
    have h3 := h.lt
    rintro (e | e | e | e)
    · omega
    · omega
    · have := (h.l.o.lt 0 e).1
      omega
    · have := (h.o.lt 0 e).1
      omega) hm
  have a0 : w.cell? ⟨b, 0, none⟩ = some (.pointer (some ⟨g, 0, none⟩)) := h.k.cell 0
  have H := Lib.hid h
  have HR := Lib.hid hR
  have HB := Lib.hid hb
  have HN := Lib.hid hn
  have HMX := Lib.hid hmB
  have HFI := Lib.hid hfi
  clear h hR hb hn hmB hfi hm
  go_enter Tryz.func29, Tryz.ntmps29
  go_wp2_with fail
  clear a0
  go_loopw [4] (fun u4 wr => ∃ (k : Nat) (pk : PaS) (vlk vak vfk : Value), k ≤ S.size ∧ u4 = .int .i64 k ∧ PaAt wr b g B vlk vak vfk kind a fields c d fold pk ∧ PaBd pk ∧ R = ((pRun kind fields fold (S.data.toList.drop k) pk).1, k + (pRun kind fields fold (S.data.toList.drop k) pk).2) ∧ Touch (PaP b g vl va) w wr ∧ FreshB w vl vlk ∧ FreshB w va vak) (fun u4 wr => 2 * (S.size - (intOf u4).toNat) + pM b wr)
  case atStart => exact ⟨0, p, vl, va, vf, Nat.zero_le _, rfl, H.out, HB.out, by rw [HR.out, List.drop_zero, Nat.zero_add], Touch.refl _ _, FreshB.refl _ _, FreshB.refl _ _⟩
  case round =>
    obtain ⟨k, pk, vlk, vak, vfk, hk, rfl, hat, hok, hpre, htc, hfl, hfa⟩ := hrel
    have HA := Lib.hid hat
    have HO := Lib.hid hok
    have HP := Lib.hid hpre
    have HT := Lib.hid htc
    have HL := Lib.hid (And.intro hfl hfa)
    clear hpre htc hfl hfa hok
    obtain ⟨FI, hFI⟩ : ∃ b, b = pk.fin := ⟨_, rfl⟩
    obtain ⟨E, hE⟩ : ∃ b, b = pk.e := ⟨_, rfl⟩
    have a0 : wr.cell? ⟨b, 0, none⟩ = some (.pointer (some ⟨g, 0, none⟩)) := hat.k.cell 0
    have a8 : wr.cell? ⟨b, 8, none⟩ = some (.bool FI) := by rw [hFI]; exact hat.k.cell 8
    have a15 : wr.cell? ⟨b, 15, none⟩ = some (.int .i64 E) := by rw [hE]; exact hat.k.cell 15
    have HW := Lib.hid hFI
    have HE := Lib.hid hE
    clear hFI hE hat
    by_cases hlt : k < S.size
    · have hk1 : decide ((k : Int) < (S.size : Int)) = true := decide_eq_true (by omega)
      cases FI with
      | true =>
        have hfin : R = (pk, k) := by rw [HP.out, pRun_stop _ _ _ _ _ (Or.inl HW.out.symm)]; rfl
        have HF := Lib.hid hfin
        clear hfin
        go_wp2_with fail
        refine wp_region_drewZ (by kernel_rfl) (by kernel_rfl) ?_
        repeat go_big_quiet_step (fail)
        refine wpQuiet_nil ?_
        rintro _ ⟨nq, rfl⟩
        go_wp2_with fail
        go_ret2
        exact ⟨by rw [HF.out, ← HE.out]; rfl, vlk, vak, vfk, by rw [HF.out]; exact HA.out.drewN nq, by rw [HF.out]; exact HO.out, HT.out.drewN nq, HL.out.1, HL.out.2⟩
      | false =>
        by_cases he : E = 0
        · subst he
          obtain ⟨T, hT⟩ : ∃ T, T = S.extract k S.size := ⟨_, rfl⟩
          have hTl : T.data.toList = S.data.toList.drop k := by rw [hT]; exact extract_drop S k
          have hTs : T.size ≤ 1000000 := by rw [hT, ByteArray.size_extract]; omega
          have hsl : ∀ W : World, (Instr.slice 9 (.string S) (some (.int .i64 (k : Int))) none none).run Tryz.prog W = .ok (.string T) W := fun W => by
            rw [run_slice_string_l W 9 S Tryz.underlying9 .i64 (k : Int) (by omega) (by omega), Int.toNat_natCast, ← hT]
          obtain ⟨q, hq⟩ : ∃ q, q = lnFeed T.data.toList pk.ln := ⟨_, rfl⟩
          have hne : S.data.toList.drop k ≠ [] := by
            intro e
            have := congrArg List.length e
            rw [List.length_drop, HN.out] at this
            simp at this
            omega
          have hle : pk.ln.e = 0 := HO.out.e HW.out.symm HE.out.symm
          have hit := pRun_iter kind fields fold (S.data.toList.drop k) pk HW.out.symm HE.out.symm hle HO.out.w hne
          rw [← hTl, ← hq, hTl, List.drop_drop] at hit
          have hql : q.2 ≤ S.size - k := by
            have := lnFeed_le T.data.toList pk.ln
            rw [← hq, hTl, List.length_drop, HN.out] at this
            exact this
          have hstk : q.2 = 0 → q.1.e ≠ 0 ∧ q.1.whole = false := by
            rw [hq, hTl]
            exact lnFeed_stuck hne HO.out.w hle
          have hpi : pIter kind fields fold (S.data.toList.drop k) pk = if q.1.whole = true then lineP kind fields fold { pk with ln := { q.1 with line := [], whole := false }, e := q.1.e } (strL q.1.line) else { pk with ln := q.1, e := q.1.e } := by
            unfold pIter
            rw [← hTl, ← hq]
          have HIT := Lib.hid hit
          have HQL := Lib.hid hql
          have HSTK := Lib.hid hstk
          have HPI := Lib.hid hpi
          have HPK := Lib.hid (pIter_ok kind fields fold (S.data.toList.drop k) HO.out)
          have HFD := Lib.hid (fun (W : World) (hW : LnAt W g B vlk pk.ln) => lfeed_any hW HO.out.l T hTs)
          rw [← hq] at HFD
          have HLS := Lib.hid HA.out.l
          clear hit hql hstk hpi hne hle hq hTl hTs hT
          obtain ⟨q1, q2⟩ := q
          go_wp2_with fail
          refine wp_region_at (S := fun v => v.cell? ⟨b, 0, none⟩ = some (.pointer (some ⟨g, 0, none⟩))) (by kernel_rfl) ?_
          intro V0 hV0
          have h0 : V0.cell? ⟨b, 0, none⟩ = some (.pointer (some ⟨g, 0, none⟩)) := by rw [hV0]; exact a0
          have hA0 : PaAt V0 b g B vlk vak vfk kind a fields c d fold pk := by rw [hV0]; exact HA.out.drew
          have hT0 : Touch (PaP b g vl va) w V0 := by rw [hV0]; exact HT.out.drew
          have HA0 := Lib.hid hA0
          have HT0 := Lib.hid hT0
          have HM0 : Hid (pM b wr = 1) := by show pM b wr = 1; rw [pM_eq a15]; rfl
          clear hV0 hA0 hT0 a0 a8 a15
          refine wpAnyH_take (i := 0) (v := .pointer (some ⟨b, 0, none⟩)) rfl (by kernel_rfl) (by kernel_rfl) (by kernel_rfl) (fun _ _ _ h => h) (Or.inl ⟨by kernel_rfl, ?hy1⟩) h0 ?rest1
          case hy1 =>
            intro v hv
            clear hv
            go_simp
          (try simp only [Act.put, List.setIfInBounds_toArray, List.set_cons_zero, List.set_cons_succ])
          refine wpAnyH_take (i := 1) (v := .pointer (some ⟨b, 0, none⟩)) rfl (by kernel_rfl) (by kernel_rfl) (by kernel_rfl) (fun _ _ _ h => h) (Or.inl ⟨by kernel_rfl, ?hy2⟩) h0 ?rest2
          case hy2 =>
            intro v hv
            clear hv
            go_simp
          (try simp only [Act.put, List.setIfInBounds_toArray, List.set_cons_zero, List.set_cons_succ])
          refine wpAnyH_take (i := 2) (v := .pointer (some ⟨b, 0, none⟩)) rfl (by kernel_rfl) (by kernel_rfl) (by kernel_rfl) (fun _ _ _ h => h) (Or.inl ⟨by kernel_rfl, ?hy3⟩) h0 ?rest3
          case hy3 =>
            intro v hv
            clear hv
            go_simp
          (try simp only [Act.put, List.setIfInBounds_toArray, List.set_cons_zero, List.set_cons_succ])
          refine wpAnyH_take (i := 3) (v := .pointer (some ⟨g, 0, none⟩)) rfl (by kernel_rfl) (by kernel_rfl) (by kernel_rfl) (fun _ _ _ h => h) (Or.inl ⟨by kernel_rfl, ?hy4⟩) h0 ?rest4
          case hy4 =>
            intro v hv
            have q1 := hv
            clear hv
            go_simp
          (try simp only [Act.put, List.setIfInBounds_toArray, List.set_cons_zero, List.set_cons_succ])
          refine wpAnyH_take (i := 4) (v := .string S) rfl (by kernel_rfl) (by kernel_rfl) (by kernel_rfl) (fun _ _ _ h => h) (Or.inl ⟨by kernel_rfl, ?hy5⟩) h0 ?rest5
          case hy5 =>
            intro v hv
            clear hv
            go_simp
          (try simp only [Act.put, List.setIfInBounds_toArray, List.set_cons_zero, List.set_cons_succ])
          refine wpAnyH_take (i := 5) (v := .int .i64 (k : Int)) rfl (by kernel_rfl) (by kernel_rfl) (by kernel_rfl) (fun _ _ _ h => h) (Or.inl ⟨by kernel_rfl, ?hy6⟩) h0 ?rest6
          case hy6 =>
            intro v hv
            clear hv
            go_simp
          (try simp only [Act.put, List.setIfInBounds_toArray, List.set_cons_zero, List.set_cons_succ])
          refine wpAnyH_take (i := 6) (v := .string T) rfl (by kernel_rfl) (by kernel_rfl) (by kernel_rfl) (fun _ _ _ h => h) (Or.inl ⟨by kernel_rfl, ?hy7⟩) h0 ?rest7
          case hy7 =>
            intro v hv
            clear hv
            go_simp
          (try simp only [Act.put, List.setIfInBounds_toArray, List.set_cons_zero, List.set_cons_succ])
          refine wpAnyH_ready (rs := [7]) (by kernel_rfl) (by simp) ?_
          refine AllReadyH.cons rfl (fun K hK => ?_) AllReadyH.nil
          go_simp
          refine (HFD.out _ HA0.out.l).mono ?_
          rintro e V1 ⟨rfl, vl1, hl1, ht1, hb1⟩
          have hA1 := HA0.out.lines HW.out.symm hl1 ht1 hb1
          have HA1 := Lib.hid hA1
          have h1 : V1.cell? ⟨b, 0, none⟩ = some (.pointer (some ⟨g, 0, none⟩)) := hA1.k.cell 0
          have HT1 := Lib.hid (touch_into HT0.out ht1 (fun i hi hp => paP_into HL.out.1 HL.out.2 i hi (lnP_pa i hp)))
          have HL1 := Lib.hid (HL.out.1.trans HT0.out.size hb1)
          clear hA1 hl1 ht1 hb1 h0
          refine hK _ _ h1 (fun _ => ?_)
          clear hK K
          (try simp only [Act.put, List.setIfInBounds_toArray, List.set_cons_zero, List.set_cons_succ])
          refine wpAnyH_take (i := 8) (v := .tuple #[.int .i64 (q2 : Int), .int .i64 q1.e]) rfl (by kernel_rfl) (by kernel_rfl) (by kernel_rfl) (fun _ _ _ h => h) (Or.inl ⟨by kernel_rfl, ?hy8⟩) h1 ?rest8
          case hy8 =>
            intro v hv
            clear hv
            go_simp
          (try simp only [Act.put, List.setIfInBounds_toArray, List.set_cons_zero, List.set_cons_succ])
          refine wpAnyH_take (i := 9) (v := .int .i64 (q2 : Int)) rfl (by kernel_rfl) (by kernel_rfl) (by kernel_rfl) (fun _ _ _ h => h) (Or.inl ⟨by kernel_rfl, ?hy9⟩) h1 ?rest9
          case hy9 =>
            intro v hv
            clear hv
            go_simp
          (try simp only [Act.put, List.setIfInBounds_toArray, List.set_cons_zero, List.set_cons_succ])
          refine wpAnyH_take (i := 10) (v := .int .i64 q1.e) rfl (by kernel_rfl) (by kernel_rfl) (by kernel_rfl) (fun _ _ _ h => h) (Or.inl ⟨by kernel_rfl, ?hy10⟩) h1 ?rest10
          case hy10 =>
            intro v hv
            clear hv
            go_simp
          (try simp only [Act.put, List.setIfInBounds_toArray, List.set_cons_zero, List.set_cons_succ])
          refine wpAnyH_ready (rs := [11]) (by kernel_rfl) (by simp) ?_
          refine AllReadyH.cons rfl (fun K hK => ?_) AllReadyH.nil
          go_simp
          refine hK _ _ h1 (fun _ => ?_)
          clear hK K
          (try simp only [Act.put, List.setIfInBounds_toArray, List.set_cons_zero, List.set_cons_succ])
          refine wpAnyH_ready (rs := [12]) (by kernel_rfl) (by simp) ?_
          refine AllReadyH.cons rfl (fun K hK => ?_) AllReadyH.nil
          go_simp
          refine hK _ _ h1 (fun _ => ?_)
          clear hK K
          (try simp only [Act.put, List.setIfInBounds_toArray, List.set_cons_zero, List.set_cons_succ])
          refine wpAnyH_done (by kernel_rfl) ?_ _
          obtain ⟨WH, hWH⟩ : ∃ x, x = q1.whole := ⟨_, rfl⟩
          have hA2 := HA1.out.setE q1.e
          have HA2 := Lib.hid hA2
          have a0 : V1.cell? ⟨b, 0, none⟩ = some (.pointer (some ⟨g, 0, none⟩)) := HA1.out.k.cell 0
          have a15 : V1.cell? ⟨b, 15, none⟩ = some (.int .i64 pk.e) := HA1.out.k.cell 15
          have f15 : V1.frozen? ⟨b, 15, none⟩ = false := HA1.out.k.froz 15
          have HWC := Lib.hid (fun (W : World) (hW : LnAt W g B vl1 q1) => lwhole_any hW)
          rw [← hWH] at HWC
          have HWH := Lib.hid hWH
          have hw1 : wrap64 ((k : Int) + (q2 : Int)) = ((k + q2 : Nat) : Int) := by
            have := HQL.out
            rw [IntWalk.wrap64_in _ ⟨by omega, by omega⟩]
            omega
          clear hA2 h1 hWH
          cases WH with
          | false =>
            go_wp2_with (go_at_call 68; refine (HWC.out _ HA2.out.l).mono ?_; rintro e1 w1 ⟨rfl, rfl⟩)
            go_roundw
            case rel =>
              refine ⟨k + q2, { pk with ln := q1, e := q1.e }, vl1, vak, vfk, by have := HQL.out; omega, rfl, HA2.out, ?_, ?_, HT1.out.setCell (p := ⟨b, 15, none⟩) (Or.inl rfl) _, HL1.out, HL.out.2⟩
              · have := HPK.out
                rw [HPI.out, if_neg (by rw [← HWH.out]; decide)] at this
                exact this
              · rw [HP.out, HIT.out, HPI.out, if_neg (by rw [← HWH.out]; decide)]
                refine Prod.ext rfl ?_
                show k + (q2 + _) = k + q2 + _
                omega
            case measure =>
              rw [HM0.out, pM_eq (HA2.out.k.cell 15)]
              simp [intOf]
              have h1 := HSTK.out
              have h2 := HQL.out
              by_cases h3 : q2 = 0
              · have h4 := (h1 h3).1
                rw [if_neg h4]
                omega
              · split <;> omega
          | true =>
            have HLC := Lib.hid (fun (W : World) (hW : LnAt W g B vl1 q1) => lline_any hW HWH.out.symm)
            have hfi2 : ({ pk with ln := q1, e := q1.e } : PaS).fin = false := HW.out.symm
            have HPL := Lib.hid (fun (W : World) (vlx : Value) (hx : PaAt W b g B vlx vak vfk kind a fields c d fold { pk with ln := { q1 with line := [], whole := false }, e := q1.e }) (tx : Touch (PaP b g vl va) w W) => pline_any hx HW.out.symm HFI.out (HMX.out W tx) (Nat.le_trans HO.out.all.1 (by decide)) (Nat.le_trans HO.out.all.2 (by decide)) (strL q1.line))
            go_wp2_with (first | (go_at_call 68; refine (HWC.out _ HA2.out.l).mono ?_; rintro e1 w1 ⟨rfl, rfl⟩) | (go_at_call 70; refine (HLC.out _ HA2.out.l).mono ?_; rintro e1 w3 ⟨rfl, vl3, hl3, ht3, hb3⟩; have hA3 := HA2.out.lines hfi2 hl3 (ht3.mono (fun i _ e => Or.inl e)) (Or.inl hb3); have HA3 := Lib.hid hA3; have HT3 := Lib.hid (touch_into (HT1.out.setCell (p := ⟨b, 15, none⟩) (Or.inl rfl) (.int .i64 q1.e)) ht3 (fun i _ e => Or.inr (Or.inl e))); have HB3 := Lib.hid hb3; clear hA3 hl3 ht3 hb3) | (go_at_call 69; refine (HPL.out _ vl3 HA3.out HT3.out).mono ?_; rintro e1 w4 ⟨rfl, va4, vf4, hA4, ht4, hb4⟩; have HA4 := Lib.hid hA4; have HT4 := Lib.hid ht4; have HB4 := Lib.hid hb4; clear hA4 ht4 hb4))
            have hl3 : FreshB w vl vl3 := by
              rcases HL1.out with h | h
              · exact Or.inl (HB3.out.trans h)
              · exact Or.inr (fun j hj => h j (HB3.out ▸ hj))
            have HL3 := Lib.hid hl3
            clear hl3
            go_roundw
            case rel =>
              refine ⟨k + q2, lineP kind fields fold { pk with ln := { q1 with line := [], whole := false }, e := q1.e } (strL q1.line), vl3, va4, vf4, by have := HQL.out; omega, rfl, HA4.out, ?_, ?_, touch_into HT3.out HT4.out (paP_into HL3.out HL.out.2), HL3.out, HL.out.2.trans HT3.out.size HB4.out⟩
              · have := HPK.out
                rw [HPI.out, if_pos HWH.out.symm] at this
                exact this
              · rw [HP.out, HIT.out, HPI.out, if_pos HWH.out.symm]
                refine Prod.ext rfl ?_
                show k + (q2 + _) = k + q2 + _
                omega
            case measure =>
              rw [HM0.out, pM_eq (HA4.out.k.cell 15)]
              simp [intOf]
              have h1 := HSTK.out
              have h2 := HQL.out
              by_cases h3 : q2 = 0
              · have h4 := (h1 h3).2
                rw [← HWH.out] at h4
                cases h4
              · split <;> omega
        · have h1 : (E == 0) = false := by rw [beq_eq_false_iff_ne]; exact he
          have hfin : R = (pk, k) := by rw [HP.out, pRun_stop _ _ _ _ _ (Or.inr (HE.out ▸ he))]; rfl
          have HF := Lib.hid hfin
          clear hfin
          go_wp2_with fail
          refine wp_region_drewZ (by kernel_rfl) (by kernel_rfl) ?_
          repeat go_big_quiet_step (fail)
          refine wpQuiet_nil ?_
          rintro _ ⟨nq, rfl⟩
          go_wp2_with fail
          go_ret2
          exact ⟨by rw [HF.out, ← HE.out]; rfl, vlk, vak, vfk, by rw [HF.out]; exact HA.out.drewN nq, by rw [HF.out]; exact HO.out, HT.out.drewN nq, HL.out.1, HL.out.2⟩
    · have hk1 : decide ((k : Int) < (S.size : Int)) = false := decide_eq_false (by omega)
      have hfin : R = (pk, k) := by
        rw [HP.out, List.drop_of_length_le (by have := HN.out; omega)]
        rfl
      have HF := Lib.hid hfin
      clear hfin
      go_wp2_with fail
      refine wp_region_drewZ (by kernel_rfl) (by kernel_rfl) ?_
      repeat go_big_quiet_step (fail)
      refine wpQuiet_nil ?_
      rintro _ ⟨nq, rfl⟩
      go_wp2_with fail
      go_ret2
      exact ⟨by rw [HF.out, ← HE.out]; rfl, vlk, vak, vfk, by rw [HF.out]; exact HA.out.drewN nq, by rw [HF.out]; exact HO.out, HT.out.drewN nq, HL.out.1, HL.out.2⟩
end Go.Proofs.YtmoofcmmpemdcaaGreatDoor
namespace Go.Proofs.YtmoofcmmpemdcaaGreatDoor
open Go.RowKit
set_option maxRecDepth 100000 in
theorem wide_any (w : World) : Calls Tryz.prog 28 #[] w fun e w' => e = .returned (.agg #[.int .i64 65536, .int .i64 1000, .int .i64 0, .int .i64 0, .int .i64 0]) ∧ Below w.heap.size w w' := by
  go_enter Tryz.func28, Tryz.ntmps28
  go_wp2_with fail
  refine bodyPost_ret (results_cell_row (Tryz.results28) _ _ w.heap.size 36 #[.int .i64 65536, .int .i64 1000, .int .i64 0, .int .i64 0, .int .i64 0] (0, 0) _ rfl ?_ Tryz.underlying36 rfl (by kernel_rfl)) rfl ⟨rfl, ?_⟩
  · exact Blk.new _ _ _
  · exact (Below.refl w.heap.size w).alloc (Nat.le_refl _) _
def pa0 (a : Int) : PaS := ⟨ln0 a, [], false, hd0, 0⟩
set_option maxRecDepth 100000 in
theorem hnew_wrong (kind a fields c d fold : Int) (h : (a < 0 ∨ 65536 < a) ∨ (kind ≠ 1 ∧ kind ≠ 2)) (w : World) :
    Calls Tryz.prog 18 #[.int .i64 kind, .agg #[.int .i64 a, .int .i64 fields, .int .i64 c, .int .i64 d, .int .i64 fold]] w fun e w' => e = .returned (.pointer none) ∧ Below w.heap.size w w' := by
  have HB := Lib.hid ((Below.refl w.heap.size w).alloc (Nat.le_refl _) (.cells #[.int .i64 a, .int .i64 fields, .int .i64 c, .int .i64 d, .int .i64 fold] 36))
  by_cases ha : a < 0 ∨ 65536 < a
  · have HN := Lib.hid (lnew_nil a ha)
    clear h ha
    go_enter Tryz.func18, Tryz.ntmps18
    go_wp2_with (go_at_call 52; refine (HN.out _).mono ?_; rintro e1 w1 ⟨rfl, h1⟩; subst h1)
    go_ret
    exact ⟨rfl, HB.out⟩
  · have hk : kind ≠ 1 ∧ kind ≠ 2 := by
      rcases h with h | h
      · exact absurd h ha
      · exact h
    have e1 : (kind != 1) = true := by simpa using hk.1
    have e2 : (kind != 2) = true := by simpa using hk.2
    have HN := Lib.hid (lnew_any a (by omega) (by omega))
    have HB2 := Lib.hid (HB.out.alloc (HB.out.size) (.cells ((ln0 a).row (.slice none 0 0)) 142))
    clear h ha hk
    go_enter Tryz.func18, Tryz.ntmps18
    go_wp2_with (go_at_call 52; refine (HN.out _).mono ?_; rintro e1 w1 ⟨rfl, h1⟩; subst h1)
    go_ret
    exact ⟨rfl, HB2.out⟩
set_option maxRecDepth 100000 in
theorem hnew_any (kind a fields c d fold : Int) (h0 : 0 ≤ a) (h1 : a ≤ 65536) (hk : kind = 1 ∨ kind = 2) (w : World) :
    Calls Tryz.prog 18 #[.int .i64 kind, .agg #[.int .i64 a, .int .i64 fields, .int .i64 c, .int .i64 d, .int .i64 fold]] w fun e w' => e = .returned (.pointer (some ⟨w.heap.size + 2, 0, none⟩)) ∧ PaAt w' (w.heap.size + 2) (w.heap.size + 1) (w.heap.size + 3) nilS nilS nilS kind a fields c d fold (pa0 a) ∧ Below w.heap.size w w' := by
  have HN := Lib.hid (lnew_any a h0 h1)
  obtain ⟨L1, hL1⟩ : ∃ o, o = Obj.cells #[.int .i64 a, .int .i64 fields, .int .i64 c, .int .i64 d, .int .i64 fold] 36 := ⟨_, rfl⟩
  obtain ⟨L2, hL2⟩ : ∃ o, o = Obj.cells ((ln0 a).row (.slice none 0 0)) 142 := ⟨_, rfl⟩
  obtain ⟨L3, hL3⟩ : ∃ o, o = Obj.cells (paRow (w.heap.size + 1) nilS nilS kind a fields c d fold (pa0 a)) 88 := ⟨_, rfl⟩
  have s1 : (w.alloc L1).heap.size = w.heap.size + 1 := by simp
  have s2 : ((w.alloc L1).alloc L2).heap.size = w.heap.size + 2 := by simp
  have s3 : (((w.alloc L1).alloc L2).alloc L3).heap.size = w.heap.size + 3 := by simp
  have kl : Blk ((w.alloc L1).alloc L2) (w.heap.size + 1) ((ln0 a).row (.slice none 0 0)) 142 := by rw [hL2]; exact Blk.new' s1.symm
  have kl2 : Blk (((w.alloc L1).alloc L2).alloc L3) (w.heap.size + 1) ((ln0 a).row (.slice none 0 0)) 142 := kl.alloc L3
  have kp : Blk (((w.alloc L1).alloc L2).alloc L3) (w.heap.size + 2) (paRow (w.heap.size + 1) nilS nilS kind a fields c d fold (pa0 a)) 88 := by rw [hL3]; exact Blk.new' s2.symm
  have hb : Below w.heap.size w (((w.alloc L1).alloc L2).alloc L3) := (((Below.refl _ _).alloc (Nat.le_refl _) _).alloc (by simp) _).alloc (by simp; omega) _
  have HP : Hid (PaAt (((w.alloc L1).alloc L2).alloc L3) (w.heap.size + 2) (w.heap.size + 1) (w.heap.size + 3) nilS nilS nilS kind a fields c d fold (pa0 a)) :=
    ⟨kp, ⟨kl2, OwnB.start _ _, by omega, by omega⟩, OwnS.start _ _, OwnF.start _ _, fun _ => ⟨rfl, rfl⟩, by omega, by omega, by omega, by omega, fun k hk => by cases hk⟩
  have HB := Lib.hid hb
  subst hL1 hL2 hL3
  clear s1 s2 s3 kl kl2 kp hb
  rcases hk with rfl | rfl
  all_goals
    go_enter Tryz.func18, Tryz.ntmps18
    go_wp2_with (go_at_call 52; refine (HN.out _).mono ?_; rintro e1 w1 ⟨rfl, h1⟩; subst h1)
    go_ret
    exact ⟨by simp, HP.out, HB.out⟩
theorem pa0_bd {a : Int} (h0 : 0 ≤ a) (h1 : a ≤ 65536) : PaBd (pa0 a) := ⟨⟨h0, Int.le_refl 0, by show a + 0 ≤ 65536; omega, by show ((0 : Nat) : Int) ≤ 0; decide⟩, by show ((0 : Nat) : Int) + tot [] + 0 ≤ 0; decide, rfl, fun _ _ => rfl, Nat.zero_le _⟩
set_option maxRecDepth 100000 in
theorem hdone_any {w : World} {b g B : Nat} {vl va vf : Value} {kind a fields c d fold : Int} {p : PaS} (h : PaAt w b g B vl va vf kind a fields c d fold p) :
    Calls Tryz.prog 22 #[.pointer (some ⟨b, 0, none⟩)] w fun e w' => e = .returned (.bool (p.fin && p.e == 0)) ∧ w = w' := by
  have a8 : w.cell? ⟨b, 8, none⟩ = some (.bool p.fin) := h.k.cell 8
  have a15 : w.cell? ⟨b, 15, none⟩ = some (.int .i64 p.e) := h.k.cell 15
  clear h
  obtain ⟨E, hE⟩ : ∃ E, E = (p.e == 0) := ⟨_, rfl⟩
  rw [← hE]
  cases hf : p.fin <;> cases E
  all_goals
    rw [hf] at a8
    have e1 := hE.symm
    clear hE
    go_enter Tryz.func22, Tryz.ntmps22
    go_wp2_with fail
    go_ret
    exact ⟨rfl, rfl⟩
end Go.Proofs.YtmoofcmmpemdcaaGreatDoor
namespace Go.Proofs.YtmoofcmmpemdcaaGreatDoor
open Go.RowKit
set_option maxRecDepth 100000 in
theorem hbegun_any {w : World} {b g B : Nat} {vl va vf : Value} {kind a fields c d fold : Int} {p : PaS} (h : PaAt w b g B vl va vf kind a fields c d fold p) :
    Calls Tryz.prog 25 #[.pointer (some ⟨b, 0, none⟩)] w fun e w' => e = .returned (.bool (!p.all.isEmpty || p.fin || p.ln.within)) ∧ w = w' := by
  have a0 : w.cell? ⟨b, 0, none⟩ = some (.pointer (some ⟨g, 0, none⟩)) := h.k.cell 0
  have a7 : w.cell? ⟨b, 7, none⟩ = some va := h.k.cell 7
  have a8 : w.cell? ⟨b, 8, none⟩ = some (.bool p.fin) := h.k.cell 8
  have HW := Lib.hid (lwithin_any h.l)
  obtain ⟨pp, cc, hsh⟩ := h.o.shape
  rw [hsh] at a7
  clear h hsh
  obtain ⟨F, hF⟩ : ∃ F, F = p.fin := ⟨_, rfl⟩
  obtain ⟨Z, hZ⟩ : ∃ F, F = p.ln.within := ⟨_, rfl⟩
  rw [← hF] at a8 ⊢
  rw [← hZ] at HW ⊢
  clear hF hZ
  cases hl : p.all with
  | nil =>
    rw [hl] at a7
    cases F
    · go_enter Tryz.func25, Tryz.ntmps25
      go_wp2_with (go_at_call 57; refine HW.out.mono ?_; rintro e1 w1 ⟨rfl, rfl⟩)
      go_ret
      exact ⟨rfl, rfl⟩
    · go_enter Tryz.func25, Tryz.ntmps25
      go_wp2_with (go_at_call 57; refine HW.out.mono ?_; rintro e1 w1 ⟨rfl, rfl⟩)
      go_ret
      exact ⟨rfl, rfl⟩
  | cons x r =>
    rw [hl] at a7
    have hlen : (x :: r).length = r.length + 1 := rfl
    rw [hlen] at a7
    go_enter Tryz.func25, Tryz.ntmps25
    go_wp2_with (go_at_call 57; refine HW.out.mono ?_; rintro e1 w1 ⟨rfl, rfl⟩)
    go_ret
    exact ⟨rfl, rfl⟩
theorem flat_one (l : List Fd) : ∀ u ∈ flat l, u.oneCell' = true := by
  intro u hu
  unfold flat at hu
  obtain ⟨f, _, hf⟩ := List.mem_flatMap.1 hu
  simp at hf
  rcases hf with rfl | rfl <;> rfl
set_option maxRecDepth 100000 in
theorem clone_any (v : Value) (l : List Fd) (w : World) (h : Flds w v l) (hl : l.length ≤ 1000000) :
    Calls Tryz.prog 56 #[v] w fun e w' => ∃ p c, e = .returned (.slice p l.length c) ∧ OwnF w' w.heap.size (.slice p l.length c) l ∧ Below w.heap.size w w' := by
  obtain ⟨p, c, rfl, hc⟩ := h
  have q27 : ∀ (W : World) (a : Option Addr) (n c : Nat), (binOp .eql 22 (.slice a n c) (.slice none 0 0)).run Tryz.prog W = .ok (.bool a.isNone) W := fun W a n c => Lib.run_eql_slice_nil W _ _ a n c 0 0 Tryz.underlying22
  cases p with
  | none =>
    have h0 : l = [] := by
      cases l with
      | nil => rfl
      | cons x r =>
        obtain ⟨b, off, hp, _⟩ := hc 0 (by simp)
        cases hp
    subst h0
    clear hc
    go_enter Tryz.func56, Tryz.ntmps56
    go_wp2_with fail
    go_ret
    exact ⟨none, 0, rfl, OwnF.start _ _, Below.refl _ _⟩
  | some ad =>
    have hnews : ∀ j u, (flat l)[j]? = some u → (w.alloc (.cells #[] 95)).cell? (ad.add j) = some u := by
      intro j u hj
      have hlj : j < (flat l).length := by
        rcases Nat.lt_or_ge j (flat l).length with h | h
        · exact h
        · rw [List.getElem?_eq_none h] at hj
          cases hj
      have hfl : (flat l).length = l.length * 2 := flat_length l
      have hk : j / 2 < l.length := by omega
      obtain ⟨b, off, hp, c1, c2⟩ := hc (j / 2) hk
      injection hp with hp
      subst hp
      have hadd : (⟨b, off, none⟩ : Addr).add j = ⟨b, off + j, none⟩ := by unfold Addr.add; split <;> simp_all
      rw [hadd]
      have hw : ∀ q x, w.cell? q = some x → (w.alloc (.cells #[] 95)).cell? q = some x := fun q x hq => touch_cell (P := fun _ => False) ((Touch.refl _ w).alloc _) id hq
      refine hw _ _ ?_
      have hat := flat_at l (j / 2) hk
      rcases Nat.mod_two_eq_zero_or_one j with hm | hm
      · have e : j = 2 * (j / 2) := by omega
        rw [← e] at hat c1
        rw [c1, ← hj, hat.1]
      · have e : j = 2 * (j / 2) + 1 := by omega
        have e2 : off + 2 * (j / 2) + 1 = off + j := by omega
        rw [← e] at hat
        rw [e2] at c2
        rw [c2, ← hj, hat.2]
    have HC := Lib.hid hnews
    have HL := Lib.hid hl
    clear hc hnews hl
    obtain ⟨i0, hi, hz0, hz1, hz2⟩ := info_parts info_field
    go_enter Tryz.func56, Tryz.ntmps56
    go_wp2_with (at_builtin; refine wpList_append_own _ rfl _ _ 22 rfl w.heap.size 95 i0 _ 2 32 Tryz.underlying22 hi hz0 hz1 hz2 rfl (by decide) _ _ _ rfl (OwnF.empty w) ad l.length c (flat l) rfl ?c1 HC.out ?c2 ?c3 ?c4 ?c5 ?_)
    case c1 => exact flat_length l
    case c2 => exact flat_one l
    case c3 => have := HL.out; unfold maxLen; simp; omega
    case c4 => have := HL.out; simp; omega
    case c5 => simp
    intro v' w1 hown1 hg _
    have hown2 : World.ownsRow w1 w.heap.size 95 2 v' l.length (flat l) := by
      have h := hown1
      rw [show flat [] = [] from rfl] at h
      simpa using h
    obtain ⟨p', c', rfl⟩ := own_slice hown2
    go_wp2_with fail
    go_ret
    exact ⟨p', c', rfl, hown2, ((Below.refl _ w).alloc (Nat.le_refl _) _).grown hg (by simp) (fun k hk => by simp [Value.ownBlock] at hk; omega)⟩
/-- The head that a parser tells. -/
def doneH (p : PaS) : Hd := if (p.fin && p.e == 0) = true then p.hd else hd0
set_option maxRecDepth 100000 in
set_option maxHeartbeats 2000000 in
theorem hhead_any {w : World} {b g B : Nat} {vl va vf : Value} {kind a fields c d fold : Int} {p : PaS} (h : PaAt w b g B vl va vf kind a fields c d fold p) (hl : p.hd.fs.length ≤ 1000000) :
    Calls Tryz.prog 24 #[.pointer (some ⟨b, 0, none⟩)] w fun e w' => ∃ f, e = .returned (.agg ((doneH p).row f)) ∧ OwnF w' w.heap.size f (doneH p).fs ∧ Below w.heap.size w w' := by
  obtain ⟨DN, hDN⟩ : ∃ D, D = (p.fin && p.e == 0) := ⟨_, rfl⟩
  have hbl : b < w.heap.size := h.k.lt
  have HD := Lib.hid (fun (W : World) (hW : PaAt W b g B vl va vf kind a fields c d fold p) => hdone_any hW)
  rw [← hDN] at HD
  have h1 : PaAt (w.alloc (.cells #[.string ⟨#[]⟩, .string ⟨#[]⟩, .int .i64 0, .int .i64 0, .string ⟨#[]⟩, .slice none 0 0] 24)) b g B vl va vf kind a fields c d fold p := h.touch (P := fun _ => False) ((Touch.refl _ w).alloc _) id id (fun _ _ => id)
  have H1 := Lib.hid h1
  cases DN with
  | false =>
    have hR : doneH p = hd0 := by unfold doneH; rw [← hDN]; rfl
    have HR := Lib.hid hR
    rw [hR]
    clear hR hDN h h1
    go_enter Tryz.func24, Tryz.ntmps24
    go_wp2_with (go_at_call 22; refine (HD.out _ H1.out).mono ?_; rintro e1 w1 ⟨rfl, h1⟩; subst h1)
    refine bodyPost_ret (results_cell_row (Tryz.results24) _ _ w.heap.size 24 (hd0.row nilS) (0, 0) _ rfl ?_ Tryz.underlying24 rfl (by kernel_rfl)) rfl ⟨nilS, rfl, ?_, ?_⟩
    · exact Blk.new _ _ _
    · exact OwnF.start _ _
    · exact (Below.refl w.heap.size w).alloc (Nat.le_refl _) _
  | true =>
    have hR : doneH p = p.hd := by unfold doneH; rw [← hDN]; rfl
    rw [hR]
    obtain ⟨Q, hQ⟩ : ∃ Q, Q = p.hd := ⟨_, rfl⟩
    have hk := h1.k
    have hof := h1.f
    rw [← hQ] at hof hl ⊢
    obtain ⟨qm, qt, qk, qn, qr, qf⟩ := Q
    have a9 := hk.cell 9
    have a10 := hk.cell 10
    have a11 := hk.cell 11
    have a12 := hk.cell 12
    have a13 := hk.cell 13
    have a14 := hk.cell 14
    simp [paRow] at a9 a10 a11 a12 a13 a14
    rw [← hQ] at a9 a10 a11 a12 a13
    simp only at a9 a10 a11 a12 a13 hof hl
    obtain ⟨pv, cv, rfl⟩ := own_slice hof
    have HC := Lib.hid (fun (V : World) (hV : Flds V (.slice pv qf.length cv) qf) => clone_any _ qf V hV hl)
    have HF := Lib.hid ((hof.alloc (.cells #[.string qm, .string qt, .int .i64 qk, .int .i64 qn, .string qr, .slice pv qf.length cv] 24)).flds)
    clear hR hDN h h1 hof hk hQ hl
    go_enter Tryz.func24, Tryz.ntmps24
    go_wp2_with (first | (go_at_call 22; refine (HD.out _ H1.out).mono ?_; rintro e1 w1 ⟨rfl, h1⟩; subst h1) | (go_at_call 56; refine (HC.out _ HF.out).mono ?_; rintro e1 w2 ⟨p2, c2, rfl, ho2, hb2⟩; have KZ := Lib.hid (((Blk.new w #[.string ⟨#[]⟩, .string ⟨#[]⟩, .int .i64 0, .int .i64 0, .string ⟨#[]⟩, .slice none 0 0] 24).alloc (.cells #[.string qm, .string qt, .int .i64 qk, .int .i64 qn, .string qr, .slice pv qf.length cv] 24)).call hb2); have KR := Lib.hid ((blk_al2 w #[.string ⟨#[]⟩, .string ⟨#[]⟩, .int .i64 0, .int .i64 0, .string ⟨#[]⟩, .slice none 0 0] #[.string qm, .string qt, .int .i64 qk, .int .i64 qn, .string qr, .slice pv qf.length cv] 24 24).call hb2); have HO2 := Lib.hid ho2; have HB2 := Lib.hid (below_two hb2); have hs2 := hb2.size; clear ho2 hb2 a9 a10 a11 a12 a13 a14; have z0 := KZ.out.cell 0; have zf0 := KZ.out.froz 0; have z1 := KZ.out.cell 1; have zf1 := KZ.out.froz 1; have z2 := KZ.out.cell 2; have zf2 := KZ.out.froz 2; have z3 := KZ.out.cell 3; have zf3 := KZ.out.froz 3; have z4 := KZ.out.cell 4; have zf4 := KZ.out.froz 4; have z5 := KZ.out.cell 5; have zf5 := KZ.out.froz 5; have r0 := KR.out.cell 0; have r1 := KR.out.cell 1; have r2 := KR.out.cell 2; have r3 := KR.out.cell 3; have r4 := KR.out.cell 4; have r5 := KR.out.cell 5; have rf5 := KR.out.froz 5; simp at z0 z1 z2 z3 z4 z5 r0 r1 r2 r3 r4 r5))
    have KZ2 := KZ.out.far (p := ⟨w.heap.size + 1, 5, none⟩) (show w.heap.size ≠ w.heap.size + 1 by omega) (.slice p2 qf.length c2)
    refine bodyPost_ret (results_cell_row (Tryz.results24) _ _ w.heap.size 24 _ (0, 0) _ rfl (blk_set6 KZ2 (.string qm) (.string qt) (.int .i64 qk) (.int .i64 qn) (.string qr) (.slice p2 qf.length c2)) Tryz.underlying24 rfl (by kernel_rfl)) rfl ⟨.slice p2 qf.length c2, rfl, ?_, ?_⟩
    · exact OwnF.lower (own_set6 (own_set HO2.out (by simp) 5 _) (by simp; omega) _ _ _ _ _ _) (by simp; omega)
    · exact below_set6 (HB2.out.setCell (p := ⟨w.heap.size + 1, 5, none⟩) (Nat.le_succ _) _) (Nat.le_refl _) _ _ _ _ _ _
end Go.Proofs.YtmoofcmmpemdcaaGreatDoor

/- Texts packed for one claim, 17 of 52: RHParse HFew Lns HpPlain See. -/
import Derived.Test.YtaojfiegnebbdaaGreatDoorMbkQ15
import Derived.Deep.Cut
import Derived.Test.YtaojfiegnebbdaaGreatDoorMbkQ16
set_option maxRecDepth 100000
set_option maxHeartbeats 16000000
set_option linter.unusedSimpArgs false
set_option linter.unusedVariables false
-- RHParse
namespace Go.Proofs.YtaojfiegnebbdaaGreatDoor
open Go.RowKit
theorem wp_here (id : Nat) {P : Program} {ops : Array Oper} {b : Bool} {Q : Exit → Act → World → Prop} {a : Act} {w : World} (h : ∀ w', w' = w → (Code.region id ops b).wp P Q a w') : (Code.region id ops b).wp P Q a w := h w rfl
end Go.Proofs.YtaojfiegnebbdaaGreatDoor
-- HFew
namespace Go.Proofs.YtaojfiegnebbdaaGreatDoor
open Go.RowKit
theorem hparse_any (kind a fields c d fold : Int) (hfi : -9223372036854775808 ≤ fields ∧ fields ≤ 9223372036854775807) (v : Value) (hcap : CapOk v) (l : List ByteArray) (w : World) {mx : Int} (hm : w.cell? ⟨0, 0, none⟩ = some (.int .i64 mx)) (hS : Strs w v l) (hn : l.length ≤ 100000) (ht : tot l ≤ 100000) :
 Calls Tryz.prog 131 #[.int .i64 kind, .agg #[.int .i64 a, .int .i64 fields, .int .i64 c, .int .i64 d, .int .i64 fold], v] w fun e w' => ∃ f, e = .returned (.tuple #[.agg ((headP kind fields fold l).1.row f), .int .i64 (headP kind fields fold l).2]) ∧ OwnF w' w.heap.size f (headP kind fields fold l).1.fs ∧ Below w.heap.size w w' := by
 by_cases h12 : kind = 1 ∨ kind = 2
 ·cases l with
  | nil =>
    obtain ⟨p, cc, rfl, _⟩ := hS
    refine (hparse_end kind a fields c d fold h12 p cc w).mono ?_
    rintro e w' ⟨rfl, hb⟩
    have hP : headP kind fields fold [] = (hd0, 2) := by unfold headP; rw [if_neg (by omega)]
    exact ⟨nilS, by rw [hP], by rw [hP]; exact OwnF.start _ _, hb⟩
  | cons s rest =>
    obtain ⟨p, cc, rfl, hc⟩ := hS
    obtain ⟨b, off, rfl, _⟩ := hc 0 (by simp)
    have hS : Strs w (.slice (some ⟨b, off, none⟩) (s :: rest).length cc) (s :: rest) := ⟨_, _, rfl, hc⟩
    have hl : (s :: rest).length = rest.length + 1 := rfl
    rw [hl] at hS hn ⊢
    have hcap : rest.length + 1 ≤ cc := hcap
    exact hparse_go kind h12 a fields c d fold hfi b off rest.length cc s rest w hm hS hcap (by omega) ht
 ·have hP : headP kind fields fold l = (hd0, 1) := by unfold headP; rw [if_pos ⟨fun e => h12 (Or.inl e), fun e => h12 (Or.inr e)⟩]
  refine (hparse_arg kind a fields c d fold (fun e => h12 (Or.inl e)) (fun e => h12 (Or.inr e)) v w).mono ?_
  rintro e w' ⟨rfl, hb⟩
  exact ⟨nilS, by rw [hP], by rw [hP]; exact OwnF.start _ _, hb⟩
end Go.Proofs.YtaojfiegnebbdaaGreatDoor
-- Lns
namespace Go.Proofs.YtaojfiegnebbdaaGreatDoor
open Go.RowKit
structure LnS where
 left : Int
 spent : Int
 line : List UInt8
 within : Bool
 turn : Bool
 whole : Bool
 e : Int
def LnS.row (s : LnS) (v : Value) : Array Value := #[.int .i64 s.left, .int .i64 s.spent, v, .bool s.within, .bool s.turn, .bool s.whole, .int .i64 s.e]
structure LnAt (w : World) (g B : Nat) (v : Value) (s : LnS) : Prop where
 b : Blk w g (s.row v) 140
 o : OwnB w B v s.line
 lt : g < B
 sz : B ≤ w.heap.size
def seeP (s : LnS) (c : UInt8) : LnS × Int :=
 if s.left = 0 then (s, 4) else if s.turn ≠ decide (c = 10) then (s, 8)
 else if c = 13 then ({ s with turn := true, left := s.left - 1, spent := s.spent + 1, within := !s.whole }, 0)
 else if c = 10 then ({ s with turn := false, whole := true, left := s.left - 1, spent := s.spent + 1, within := false }, 0)
 else ({ s with line := s.line ++ [c], left := s.left - 1, spent := s.spent + 1, within := !s.whole }, 0)
end Go.Proofs.YtaojfiegnebbdaaGreatDoor
-- HpPlain
namespace Go.Proofs.YtaojfiegnebbdaaGreatDoor
open Go.RowKit
def strL (l : List UInt8) : ByteArray := ⟨l.toArray⟩
theorem strL_nil (l : List UInt8) : (strL l).size = 0 ↔ l = [] := by
 unfold strL
 show l.toArray.size = 0 ↔ _
 simp
theorem strL_size (l : List UInt8) : (strL l).size = l.length := by
 unfold strL
 show l.toArray.size = _
 simp
def lnFeed : List UInt8 → LnS → LnS × Nat
 | [], s => (s, 0)
 | c :: r, s => if s.whole = true ∨ s.e ≠ 0 then (s, 0)
   else if (seeP s c).2 = 0 then ((lnFeed r { (seeP s c).1 with e := 0 }).1, (lnFeed r { (seeP s c).1 with e := 0 }).2 + 1)
   else ({ (seeP s c).1 with e := (seeP s c).2 }, 0)
structure PaS where
 ln : LnS
 all : List ByteArray
 fin : Bool
 hd : Hd
 e : Int
def lineP (kind fields fold : Int) (p : PaS) (s : ByteArray) : PaS :=
 if s.size ≠ 0 then { p with all := p.all ++ [s] }
 else if p.all ≠ [] ∨ kind = 2 then { p with fin := true, hd := (headP kind fields fold p.all).1, e := (headP kind fields fold p.all).2 } else p
def pTake (kind fields fold : Int) (p : PaS) (s : LnS) : PaS :=
 if s.whole = true then lineP kind fields fold { p with ln := { s with line := [], whole := false, e := 0 }, e := 0 } (strL s.line) else { p with ln := { s with e := 0 }, e := 0 }
def pRun (kind fields fold : Int) : List UInt8 → PaS → PaS × Nat
 | [], p => (p, 0)
 | c :: r, p => if p.fin = true ∨ p.e ≠ 0 then (p, 0)
   else if (seeP p.ln c).2 = 0 then ((pRun kind fields fold r (pTake kind fields fold p (seeP p.ln c).1)).1, (pRun kind fields fold r (pTake kind fields fold p (seeP p.ln c).1)).2 + 1)
   else ({ p with ln := { (seeP p.ln c).1 with e := (seeP p.ln c).2 }, e := (seeP p.ln c).2 }, 0)
def pIter (kind fields fold : Int) (l : List UInt8) (p : PaS) : PaS :=
 if (lnFeed l p.ln).1.whole = true then lineP kind fields fold { p with ln := { (lnFeed l p.ln).1 with line := [], whole := false }, e := (lnFeed l p.ln).1.e } (strL (lnFeed l p.ln).1.line)
 else { p with ln := (lnFeed l p.ln).1, e := (lnFeed l p.ln).1.e }
theorem lnFeed_le : ∀ (l : List UInt8) (s : LnS), (lnFeed l s).2 ≤ l.length
 | [], s => nR _
 | c :: r, s => by
   rw [lnFeed]
   split
   ·exact Nat.zero_le _
   split
   ·simpa using lnFeed_le r _
   ·exact Nat.zero_le _
theorem lnFeed_stop (l : List UInt8) (s : LnS) (h : s.whole = true ∨ s.e ≠ 0) : lnFeed l s = (s, 0) := by
 cases l with
 | nil => rfl
 | cons c r => rw [lnFeed, if_pos h]
theorem seeP_e (s : LnS) (c : UInt8) : (seeP s c).1.e = s.e := by
 unfold seeP
 repeat' split
 all_goals rfl
theorem lnS_e (s : LnS) (h : s.e = 0) : { s with e := 0 } = s := by
 obtain ⟨a, b, c, d, e, f, g⟩ := s
 simp only at h
 subst h
 rfl
theorem pRun_stop (kind fields fold : Int) (l : List UInt8) (p : PaS) (h : p.fin = true ∨ p.e ≠ 0) : pRun kind fields fold l p = (p, 0) := by
 cases l with
 | nil => rfl
 | cons c r => rw [pRun, if_pos h]
theorem pRun_iter (kind fields fold : Int) : ∀ (l : List UInt8) (p : PaS), p.fin = false → p.e = 0 → p.ln.e = 0 → p.ln.whole = false → l ≠ [] →
 pRun kind fields fold l p = ((pRun kind fields fold (l.drop (lnFeed l p.ln).2) (pIter kind fields fold l p)).1, (lnFeed l p.ln).2 + (pRun kind fields fold (l.drop (lnFeed l p.ln).2) (pIter kind fields fold l p)).2)
 | [], p, _, _, _, _, h => absurd rfl h
 | c :: r, p, h1, h2, h3, h4, _ => by
   have n1 : ¬ (p.fin = true ∨ p.e ≠ 0) := by rw [h1, h2]; simp
   have n2 : ¬ (p.ln.whole = true ∨ p.ln.e ≠ 0) := by rw [h3, h4]; simp
   rw [pRun, if_neg n1]
   unfold pIter
   rw [lnFeed, if_neg n2]
   by_cases hs : (seeP p.ln c).2 = 0
   ·rw [if_pos hs, if_pos hs]
    obtain ⟨S, hS⟩ : ∃ S, S = (seeP p.ln c).1 := ⟨_, rfl⟩
    have hSe : S.e = 0 := by rw [hS, seeP_e, h3]
    rw [← hS]
    rw [lnS_e S hSe]
    cases hw : S.whole with
    | true =>
      rw [lnFeed_stop r S (Or.inl hw)]
      simp only [hw, if_true, List.drop_succ_cons, List.drop_zero, Nat.zero_add]
      have : pTake kind fields fold p S = lineP kind fields fold { p with ln := { S with line := [], whole := false }, e := S.e } (strL S.line) := by
       unfold pTake
       rw [if_pos hw, hSe]
      rw [this, Nat.add_comm]
    | false =>
      have ht : pTake kind fields fold p S = { p with ln := S, e := 0 } := by
       unfold pTake
       rw [if_neg (by rw [hw]; decide), lnS_e S hSe]
      rw [ht]
      simp only [List.drop_succ_cons]
      by_cases hr : r = []
      ·subst hr
       rw [lnFeed, hw]
       simp only [Bool.false_eq_true, if_false]
       rw [hSe]
       simp [pRun]
      ·have ih := pRun_iter kind fields fold r { p with ln := S, e := 0 } h1 rfl hSe hw hr
       rw [ih]
       unfold pIter
       simp only
       congr 1
       omega
   ·rw [if_neg hs, if_neg hs]
    have hSe : (seeP p.ln c).1.whole = false := by
     revert hs
     unfold seeP
     repeat' split
     all_goals first
      | (intro _; exact h4)
      | (intro hs; exact absurd rfl hs)
    simp only [hSe, Bool.false_eq_true, if_false, List.drop_zero, Nat.zero_add]
    rw [pRun_stop]
    exact Or.inr hs
theorem pRun_le (kind fields fold : Int) : ∀ (l : List UInt8) (p : PaS), (pRun kind fields fold l p).2 ≤ l.length
 | [], p => nR _
 | c :: r, p => by
   rw [pRun]
   split
   ·exact Nat.zero_le _
   split
   ·simpa using pRun_le kind fields fold r _
   ·exact Nat.zero_le _
def rdL (most : Int) : List UInt8 → Nat → List UInt8 → Bool → List (List UInt8) × Bool × Nat × Int
 | [], i, cur, turn => ([], !cur.isEmpty || turn, i, 0)
 | c :: r, i, cur, turn => if (i : Int) = most then ([], !cur.isEmpty || turn, i, 4)
   else if turn ≠ decide (c = 10) then ([], !cur.isEmpty || turn, i, 8)
   else if c = 13 then rdL most r (i + 1) cur true
   else if c = 10 then (cur :: (rdL most r (i + 1) [] false).1, (rdL most r (i + 1) [] false).2)
   else rdL most r (i + 1) (cur ++ [c]) false
def scanP (kind fields fold : Int) : List (List UInt8) → Nat → List ByteArray → Option ((Hd × Int) × Nat) × List ByteArray
 | [], _, got => (none, got)
 | l :: r, at_, got => if l ≠ [] then scanP kind fields fold r (at_ + l.length + 2) (got ++ [strL l])
   else if got ≠ [] ∨ kind = 2 then (some (headP kind fields fold got, at_ + 2), got) else scanP kind fields fold r (at_ + 2) got
def RdOk (P : PaS × Nat) (q : Bool × Nat × Int) (z : Option ((Hd × Int) × Nat) × List ByteArray) (i : Nat) (hd : Hd) : Prop :=
 match z with
 | (some (h, used), _) => P.1.fin = true ∧ P.1.hd = h.1 ∧ P.1.e = h.2 ∧ i + P.2 = used
 | (none, all) => P.1.fin = false ∧ P.1.all = all ∧ P.1.e = q.2.2 ∧ P.1.hd = hd ∧ i + P.2 = q.2.1 ∧ P.1.ln.within = q.1
theorem RdOk.step {P : PaS × Nat} {q : Bool × Nat × Int} {z : Option ((Hd × Int) × Nat) × List ByteArray} {i : Nat} {hd : Hd} (h : RdOk P q z (i + 1) hd) : RdOk (P.1, P.2 + 1) q z i hd := by
 obtain ⟨z1, z2⟩ := z
 cases z1 with
 | none =>
   obtain ⟨a, b, c, d, e, f⟩ := h
   exact ⟨a, b, c, d, by rw [← e]; show i + (P.2 + 1) = i + 1 + P.2; omega, f⟩
 | some hu =>
   obtain ⟨h1, used⟩ := hu
   obtain ⟨a, b, c, d⟩ := h
   exact ⟨a, b, c, by rw [← d]; show i + (P.2 + 1) = i + 1 + P.2; omega⟩
theorem pRun_rd (kind fields fold most : Int) : ∀ (l : List UInt8) (i at_ : Nat) (sp : Int) (cur : List UInt8) (turn : Bool) (all : List ByteArray) (hd : Hd),
 at_ + cur.length + (if turn = true then 1 else 0) = i →
 RdOk (pRun kind fields fold l ⟨⟨most - i, sp, cur, !cur.isEmpty || turn, turn, false, 0⟩, all, false, hd, 0⟩) (rdL most l i cur turn).2 (scanP kind fields fold (rdL most l i cur turn).1 at_ all) i hd
 | [], i, at_, sp, cur, turn, all, hd, hi => by
   simp [pRun, rdL, scanP, RdOk]
 | c :: r, i, at_, sp, cur, turn, all, hd, hi => by
   rw [pRun, if_neg (by simp), rdL]
   unfold seeP
   simp only
   by_cases h1 : (i : Int) = most
   ·rw [if_pos (by omega : most - (i : Int) = 0), if_pos h1]
    simp [scanP, RdOk]
   rw [if_neg (by omega : ¬ most - (i : Int) = 0), if_neg h1]
   by_cases h2 : turn ≠ decide (c = 10)
   ·rw [if_pos h2, if_pos h2, if_neg (show ¬ (8 : Int) = 0 by decide)]
    simp [scanP, RdOk]
   rw [if_neg h2, if_neg h2]
   have hl : most - (i : Int) - 1 = most - ((i + 1 : Nat) : Int) := by omega
   by_cases h3 : c = 13
   ·rw [if_pos h3, if_pos h3, if_pos rfl]
    unfold pTake
    simp only [Bool.false_eq_true, if_false, hl]
    have ht : turn = false := by
     have := Decidable.not_not.1 h2
     rw [this, h3]
     rfl
    have ih := pRun_rd kind fields fold most r (i + 1) at_ (sp + 1) cur true all hd (by rw [ht] at hi; simp at hi ⊢; omega)
    simp only [Bool.or_true] at ih
    exact ih.step
   rw [if_neg h3, if_neg h3]
   by_cases h4 : c = 10
   ·rw [if_pos h4, if_pos h4, if_pos rfl]
    have ht : turn = true := by
     have := Decidable.not_not.1 h2
     rw [this, h4]
     rfl
    rw [ht, if_pos rfl] at hi
    unfold pTake
    simp only [if_true, hl]
    unfold lineP
    simp only [ne_eq, strL_nil]
    rw [scanP]
    by_cases h5 : cur = []
    ·subst h5
     simp only [not_true, if_false, ne_eq]
     by_cases h6 : ¬ all = [] ∨ kind = 2
     ·rw [if_pos h6, if_pos h6, pRun_stop _ _ _ _ _ (Or.inl rfl)]
      simp at hi
      exact ⟨rfl, rfl, rfl, by show i + (0 + 1) = at_ + 2; omega⟩
     ·rw [if_neg h6, if_neg h6]
      have ih := pRun_rd kind fields fold most r (i + 1) (at_ + 2) (sp + 1) [] false all hd (by simp at hi ⊢; omega)
      exact ih.step
    ·rw [if_pos h5, if_pos h5]
     have ih := pRun_rd kind fields fold most r (i + 1) (at_ + cur.length + 2) (sp + 1) [] false (all ++ [strL cur]) hd (by simp; omega)
     exact ih.step
   ·rw [if_neg h4, if_neg h4, if_pos rfl]
    have ht : turn = false := by
     have := Decidable.not_not.1 h2
     rw [this]
     exact dF h4
    subst ht
    unfold pTake
    simp only [Bool.false_eq_true, if_false, hl, Bool.not_false]
    have ih := pRun_rd kind fields fold most r (i + 1) at_ (sp + 1) (cur ++ [c]) false all hd (by simp at hi ⊢; omega)
    have he : (!(cur ++ [c]).isEmpty || false) = true := by simp
    rw [he] at ih
    exact ih.step
end Go.Proofs.YtaojfiegnebbdaaGreatDoor
-- See
namespace Go.Proofs.YtaojfiegnebbdaaGreatDoor
open Go.RowKit
def LnP (g : Nat) (v : Value) (j : Nat) : Prop := j = g ∨ v.ownBlock = some j
theorem touch_into {P Q : Nat → Prop} {w w1 w2 : World} (h : Touch P w w1) (k : Touch Q w1 w2) (hq : ∀ i, i < w.heap.size → Q i → P i) : Touch P w w2 :=
 ⟨k.os.trans h.os, k.tape.trans h.tape, k.output.trans h.output, nT h.size k.size, fun i hi hP => (k.block i (Nat.lt_of_lt_of_le hi h.size) fun hQ => hP (hq i hi hQ)).trans (h.block i hi hP)⟩
theorem OwnB.lt {w : World} {B : Nat} {v : Value} {l : List UInt8} (h : OwnB w B v l) : ∀ k, v.ownBlock = some k → B ≤ k ∧ k < w.heap.size := by
 intro k hk
 obtain ⟨_, h2⟩ := h
 rcases h2 with ⟨rfl, _⟩ | ⟨g', cap, cur, rfl, hB, hg, _⟩
 ·cases hk
 ·have : g' = k := by injection hk
  subst this
  exact ⟨hB, (Array.getElem?_eq_some_iff.1 hg).1⟩
theorem seeP_eq (L S : Int) (Ln : List UInt8) (Wi Tu Wh : Bool) (E : Int) (c : UInt8) (e0 : L ≠ 0) : seeP ⟨L, S, Ln, Wi, Tu, Wh, E⟩ c = (if Tu ≠ decide (c = 10) then (⟨L, S, Ln, Wi, Tu, Wh, E⟩, 8)
 else if decide (c = 13) = true then (⟨L - 1, S + 1, Ln, !Wh, true, Wh, E⟩, 0)
 else if decide (c = 10) = true then (⟨L - 1, S + 1, Ln, false, false, true, E⟩, 0)
 else (⟨L - 1, S + 1, Ln ++ [c], !Wh, Tu, Wh, E⟩, 0)) := by
 unfold seeP
 rw [if_neg e0]
 simp only [decide_eq_true_eq]
theorem ln_cr {w : World} {g : Nat} {v : Value} {L S : Int} {Wi Tu Wh : Bool} {E : Int} (v2 : Value) (h : Blk w g #[.int .i64 L, .int .i64 S, v, .bool Wi, .bool Tu, .bool Wh, .int .i64 E] 140) : Blk ((((w.setCell ⟨g, 4, none⟩ (.bool true)).setCell ⟨g, 0, none⟩ (.int .i64 (L - 1))).setCell ⟨g, 1, none⟩ (.int .i64 (S + 1))).setCell ⟨g, 3, none⟩ (.bool (!Wh))) g #[.int .i64 (L - 1), .int .i64 (S + 1), v, .bool (!Wh), .bool true, .bool Wh, .int .i64 E] 140 := by
 have := ((((h.set 4 (.bool true)).set 0 (.int .i64 (L - 1))).set 1 (.int .i64 (S + 1))).set 3 (.bool (!Wh)))
 simpa using this
theorem lt_cr (P : Nat → Prop) (w : World) (g : Nat) (hg : P g) (v2 : Value) (L S : Int) (Wh : Bool) : Touch P w ((((w.setCell ⟨g, 4, none⟩ (.bool true)).setCell ⟨g, 0, none⟩ (.int .i64 (L - 1))).setCell ⟨g, 1, none⟩ (.int .i64 (S + 1))).setCell ⟨g, 3, none⟩ (.bool (!Wh))) := (((((Touch.refl _ w).setCell (p := ⟨g, 4, none⟩) hg (.bool true)).setCell (p := ⟨g, 0, none⟩) hg (.int .i64 (L - 1))).setCell (p := ⟨g, 1, none⟩) hg (.int .i64 (S + 1))).setCell (p := ⟨g, 3, none⟩) hg (.bool (!Wh)))
theorem ln_lf {w : World} {g : Nat} {v : Value} {L S : Int} {Wi Tu Wh : Bool} {E : Int} (v2 : Value) (h : Blk w g #[.int .i64 L, .int .i64 S, v, .bool Wi, .bool Tu, .bool Wh, .int .i64 E] 140) : Blk (((((w.setCell ⟨g, 4, none⟩ (.bool false)).setCell ⟨g, 5, none⟩ (.bool true)).setCell ⟨g, 0, none⟩ (.int .i64 (L - 1))).setCell ⟨g, 1, none⟩ (.int .i64 (S + 1))).setCell ⟨g, 3, none⟩ (.bool false)) g #[.int .i64 (L - 1), .int .i64 (S + 1), v, .bool false, .bool false, .bool true, .int .i64 E] 140 := by
 have := (((((h.set 4 (.bool false)).set 5 (.bool true)).set 0 (.int .i64 (L - 1))).set 1 (.int .i64 (S + 1))).set 3 (.bool false))
 simpa using this
theorem lt_lf (P : Nat → Prop) (w : World) (g : Nat) (hg : P g) (v2 : Value) (L S : Int) (Wh : Bool) : Touch P w (((((w.setCell ⟨g, 4, none⟩ (.bool false)).setCell ⟨g, 5, none⟩ (.bool true)).setCell ⟨g, 0, none⟩ (.int .i64 (L - 1))).setCell ⟨g, 1, none⟩ (.int .i64 (S + 1))).setCell ⟨g, 3, none⟩ (.bool false)) := ((((((Touch.refl _ w).setCell (p := ⟨g, 4, none⟩) hg (.bool false)).setCell (p := ⟨g, 5, none⟩) hg (.bool true)).setCell (p := ⟨g, 0, none⟩) hg (.int .i64 (L - 1))).setCell (p := ⟨g, 1, none⟩) hg (.int .i64 (S + 1))).setCell (p := ⟨g, 3, none⟩) hg (.bool false))
theorem ln_ap {w : World} {g : Nat} {v : Value} {L S : Int} {Wi Tu Wh : Bool} {E : Int} (v2 : Value) (h : Blk w g #[.int .i64 L, .int .i64 S, v, .bool Wi, .bool Tu, .bool Wh, .int .i64 E] 140) : Blk ((((w.setCell ⟨g, 2, none⟩ (v2)).setCell ⟨g, 0, none⟩ (.int .i64 (L - 1))).setCell ⟨g, 1, none⟩ (.int .i64 (S + 1))).setCell ⟨g, 3, none⟩ (.bool (!Wh))) g #[.int .i64 (L - 1), .int .i64 (S + 1), v2, .bool (!Wh), .bool Tu, .bool Wh, .int .i64 E] 140 := by
 have := ((((h.set 2 (v2)).set 0 (.int .i64 (L - 1))).set 1 (.int .i64 (S + 1))).set 3 (.bool (!Wh)))
 simpa using this
theorem lt_ap (P : Nat → Prop) (w : World) (g : Nat) (hg : P g) (v2 : Value) (L S : Int) (Wh : Bool) : Touch P w ((((w.setCell ⟨g, 2, none⟩ (v2)).setCell ⟨g, 0, none⟩ (.int .i64 (L - 1))).setCell ⟨g, 1, none⟩ (.int .i64 (S + 1))).setCell ⟨g, 3, none⟩ (.bool (!Wh))) := (((((Touch.refl _ w).setCell (p := ⟨g, 2, none⟩) hg (v2)).setCell (p := ⟨g, 0, none⟩) hg (.int .i64 (L - 1))).setCell (p := ⟨g, 1, none⟩) hg (.int .i64 (S + 1))).setCell (p := ⟨g, 3, none⟩) hg (.bool (!Wh)))
theorem see_any {g B : Nat} {v : Value} {s : LnS} {w : World} (h : LnAt w g B v s) (c : UInt8) (x : Int) (hx : x = c.toNat) (h1 : 0 ≤ s.left) (h2 : s.left ≤ 1000000) (h3 : 0 ≤ s.spent) (h4 : s.spent ≤ 1000000) (h5 : s.line.length ≤ 1000000) :
 Calls Tryz.prog 130 #[.pointer (some ⟨g, 0, none⟩), .int .u8 x] w fun e w' => e = .returned (.int .i64 (seeP s c).2) ∧ ∃ v', LnAt w' g B v' (seeP s c).1 ∧ Touch (LnP g v) w w' ∧ (v'.ownBlock = v.ownBlock ∨ ∀ k, v'.ownBlock = some k → w.heap.size ≤ k) := by
 obtain ⟨L, S, Ln, Wi, Tu, Wh, E⟩ := s
 simp only at h1 h2 h3 h4 h5
 have a0 : w.cell? ⟨g, 0, none⟩ = some (.int .i64 L) := h.b.cell 0
 have f0 : w.frozen? ⟨g, 0, none⟩ = false := h.b.froz 0
 have a1 : w.cell? ⟨g, 1, none⟩ = some (.int .i64 S) := h.b.cell 1
 have f1 : w.frozen? ⟨g, 1, none⟩ = false := h.b.froz 1
 have a2 : w.cell? ⟨g, 2, none⟩ = some (v) := h.b.cell 2
 have f2 : w.frozen? ⟨g, 2, none⟩ = false := h.b.froz 2
 have a3 : w.cell? ⟨g, 3, none⟩ = some (.bool Wi) := h.b.cell 3
 have f3 : w.frozen? ⟨g, 3, none⟩ = false := h.b.froz 3
 have a4 : w.cell? ⟨g, 4, none⟩ = some (.bool Tu) := h.b.cell 4
 have f4 : w.frozen? ⟨g, 4, none⟩ = false := h.b.froz 4
 have a5 : w.cell? ⟨g, 5, none⟩ = some (.bool Wh) := h.b.cell 5
 have f5 : w.frozen? ⟨g, 5, none⟩ = false := h.b.froz 5
 have a6 : w.cell? ⟨g, 6, none⟩ = some (.int .i64 E) := h.b.cell 6
 have f6 : w.frozen? ⟨g, 6, none⟩ = false := h.b.froz 6
 have H := lH h
 have hlt := h.b.lt
 obtain ⟨R, hR⟩ : ∃ R, R = seeP ⟨L, S, Ln, Wi, Tu, Wh, E⟩ c := ⟨_, rfl⟩
 rw [← hR]
 clear h
 by_cases e0 : L = 0
 ·have d0 : (L == 0) = true := by rw [beq_iff_eq]; exact e0
  have hR : R = (⟨L, S, Ln, Wi, Tu, Wh, E⟩, 4) := by rw [hR]; unfold seeP; rw [if_pos e0]
  subst hR
  clear e0 hR
  go_enter Tryz.func130, Tryz.ntmps130
  go_wp2_with fail
  go_ret
  exact ⟨rfl, v, H.out, Touch.refl _ _, Or.inl rfl⟩
 have d0 : (L == 0) = false := by rw [beq_eq_false_iff_ne]; exact e0
 rw [seeP_eq _ _ _ _ _ _ _ _ e0] at hR
 have HR := lH hR
 have hw1 : wrap64 (L - 1) = L - 1 := IntWalk.wrap64_in _ ⟨by omega, by omega⟩
 have hw2 : wrap64 (S + 1) = S + 1 := IntWalk.wrap64_in _ ⟨by omega, by omega⟩
 clear hR e0 h1 h2 h3 h4
 have hc10 : decide (c = 10) = (x == 10) := by
  rw [hx]
  by_cases e : c = 10
  ·subst e; rfl
  ·rw [dF e, eq_comm, beq_eq_false_iff_ne]
   intro k
   exact e (UInt8.toNat_inj.1 (by have : c.toNat = 10 := by omega
                                  simpa using this))
 have hc13 : decide (c = 13) = (x == 13) := by
  rw [hx]
  by_cases e : c = 13
  ·subst e; rfl
  ·rw [dF e, eq_comm, beq_eq_false_iff_ne]
   intro k
   exact e (UInt8.toNat_inj.1 (by have : c.toNat = 13 := by omega
                                  simpa using this))
 have HX := lH hx
 clear hx
 have h1013 : (x == 10) = true → (x == 13) = false := by
  intro k
  rw [beq_iff_eq] at k
  rw [k]
  rfl
 cases k10 : (x == 10) with
 | true =>
   have k13 := h1013 k10
   have HC := lH (And.intro (hc10.trans k10) (hc13.trans k13))
   clear hc10 hc13 h1013
   cases Tu with
   | false =>
     have hR : R = (⟨L, S, Ln, Wi, false, Wh, E⟩, 8) := by rw [HR.out, HC.out.1]; rfl
     subst hR
     go_enter Tryz.func130, Tryz.ntmps130
     go_wp2_with fail
     go_ret
     exact ⟨rfl, v, H.out, Touch.refl _ _, Or.inl rfl⟩
   | true =>
     have hR : R = (⟨L - 1, S + 1, Ln, false, false, true, E⟩, 0) := by rw [HR.out, HC.out.1, HC.out.2]; rfl
     subst hR
     go_enter Tryz.func130, Tryz.ntmps130
     go_wp2_with fail
     go_ret
     have T1 := lt_lf (LnP g v) w g (Or.inl rfl) v L S Wh
     have T2 := lt_lf (fun j => j = g) w g rfl v L S Wh
     have K1 := ln_lf v H.out.b
     refine ⟨rfl, v, ⟨K1, own_touch H.out.o T2 (fun k hk e => absurd (H.out.o.lt k hk).1 (by have := H.out.lt; omega)), H.out.lt, nT H.out.sz T1.size⟩, T1, Or.inl rfl⟩
 | false =>
   cases Tu with
   | true =>
     have HC := lH (And.intro (hc10.trans k10) (True.intro))
     clear hc10 hc13 h1013
     have hR : R = (⟨L, S, Ln, Wi, true, Wh, E⟩, 8) := by rw [HR.out, HC.out.1]; rfl
     subst hR
     go_enter Tryz.func130, Tryz.ntmps130
     go_wp2_with fail
     go_ret
     exact ⟨rfl, v, H.out, Touch.refl _ _, Or.inl rfl⟩
   | false =>
     cases k13 : (x == 13) with
     | true =>
       have HC := lH (And.intro (hc10.trans k10) (hc13.trans k13))
       clear hc10 hc13 h1013
       have hR : R = (⟨L - 1, S + 1, Ln, !Wh, true, Wh, E⟩, 0) := by rw [HR.out, HC.out.1, HC.out.2]; rfl
       subst hR
       go_enter Tryz.func130, Tryz.ntmps130
       go_wp2_with fail
       go_ret
       have T1 := lt_cr (LnP g v) w g (Or.inl rfl) v L S Wh
       have T2 := lt_cr (fun j => j = g) w g rfl v L S Wh
       have K1 := ln_cr v H.out.b
       refine ⟨rfl, v, ⟨K1, own_touch H.out.o T2 (fun k hk e => absurd (H.out.o.lt k hk).1 (by have := H.out.lt; omega)), H.out.lt, nT H.out.sz T1.size⟩, T1, Or.inl rfl⟩
     | false =>
       have HC := lH (And.intro (hc10.trans k10) (hc13.trans k13))
       clear hc10 hc13 h1013
       have hR : R = (⟨L - 1, S + 1, Ln ++ [c], !Wh, false, Wh, E⟩, 0) := by rw [HR.out, HC.out.1, HC.out.2]; rfl
       subst hR
       have H5 := lH h5
       clear h5
       go_enter Tryz.func130, Tryz.ntmps130
       go_wp2_with (at_builtin; refine wpList_push_byte rfl _ _ rfl rfl H.out.o c x HX.out rfl H5.out H.out.sz ?_; intro g1 c1 w1 ho1 ht1 hg1; have hne : ∀ j, v.ownBlock = some j → j ≠ g := fun j hj e => absurd (H.out.o.lt j hj).1 (by have := H.out.lt; omega); have b1 : Blk w1 g _ _ := H.out.b.touch ht1 (fun e => hne g e rfl); have a0 : w1.cell? ⟨g, 0, none⟩ = some (.int .i64 L) := b1.cell 0; have a1 : w1.cell? ⟨g, 1, none⟩ = some (.int .i64 S) := b1.cell 1; have a2 : w1.cell? ⟨g, 2, none⟩ = some v := b1.cell 2; have a3 : w1.cell? ⟨g, 3, none⟩ = some (.bool Wi) := b1.cell 3; have a5 : w1.cell? ⟨g, 5, none⟩ = some (.bool Wh) := b1.cell 5; have f0 : w1.frozen? ⟨g, 0, none⟩ = false := b1.froz 0; have f1 : w1.frozen? ⟨g, 1, none⟩ = false := b1.froz 1; have f2 : w1.frozen? ⟨g, 2, none⟩ = false := b1.froz 2; have f3 : w1.frozen? ⟨g, 3, none⟩ = false := b1.froz 3; have B1 := lH b1; have HO1 := lH ho1; have HT1 := lH ht1; have HG1 : Hid (v.ownBlock = some g1 ∨ w.heap.size ≤ g1) := hg1; clear b1 ho1 ht1 hg1 hne)
       go_ret
       have T1 := lt_ap (LnP g v) w1 g (Or.inl rfl) (.slice (some ⟨g1, 0, none⟩) (Ln.length + 1) c1) L S Wh
       have T2 := lt_ap (fun j => j = g) w1 g rfl (.slice (some ⟨g1, 0, none⟩) (Ln.length + 1) c1) L S Wh
       have K1 := ln_ap (.slice (some ⟨g1, 0, none⟩) (Ln.length + 1) c1) B1.out
       have T0 : Touch (LnP g v) w w1 := HT1.out.mono (fun j _ hj => Or.inr hj)
       have hg : g < B := H.out.lt
       have hsz := H.out.sz
       have hT1 := T0.size
       have hT2 := T1.size
       have ho : OwnB ((((w1.setCell ⟨g, 2, none⟩ (.slice (some ⟨g1, 0, none⟩) (Ln.length + 1) c1)).setCell ⟨g, 0, none⟩ (.int .i64 (L - 1))).setCell ⟨g, 1, none⟩ (.int .i64 (S + 1))).setCell ⟨g, 3, none⟩ (.bool (!Wh))) B (.slice (some ⟨g1, 0, none⟩) (Ln.length + 1) c1) (Ln ++ [c]) := own_touch HO1.out T2 (fun k hk e => absurd (OwnB.lt HO1.out k hk).1 (by omega))
       refine ⟨rfl, .slice (some ⟨g1, 0, none⟩) (Ln.length + 1) c1, ⟨K1, ho, hg, by omega⟩, T0.trans T1, ?_⟩
       rcases HG1.out with hg1 | hg1
       ·left; rw [hg1]; rfl
       ·right
        intro k hk
        have : g1 = k := by injection hk
        rw [← this]
        exact hg1
end Go.Proofs.YtaojfiegnebbdaaGreatDoor
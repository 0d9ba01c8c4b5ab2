/- Texts packed for one claim, 36 of 49: HHead HdA RdP Read16 Read22 HdD. -/
import Derived.Test.YtbglakhojbhfbaaGreatDoorEncodeBackQ22
import Derived.Lib.LazyBuf
import Derived.Test.YtbglakhojbhfbaaGreatDoorEncodeBackQ20
import Derived.Test.YtbglakhojbhfbaaGreatDoorEncodeBackQ21
set_option linter.unusedSimpArgs false
set_option linter.unusedVariables false
-- HHead
namespace Go.Proofs.YtbglakhojbhfbaaGreatDoor
open Go.RowKit
theorem flat_one (l : List Fd) : ∀ u ∈ flat l, u.oneCell' = true := by
  intro u hu
  unfold flat at hu
  obtain ⟨f, _, hf⟩ := List.mem_flatMap.1 hu
  simp at hf
  rcases hf with rfl | rfl <;> rfl
set_option maxRecDepth 100000 in
theorem clone_any (v : Value) (l : List Fd) (w : World) (h : Flds w v l) (hl : l.length ≤ 1000000) :
    Calls Tryz.prog 37 #[v] w fun e w' => ∃ p c, e = .returned (.slice p l.length c) ∧ OwnF w' w.heap.size (.slice p l.length c) l ∧ Below w.heap.size w w' := by
  obtain ⟨p, c, rfl, hc⟩ := h
  have q27 : ∀ (W : World) (a : Option Addr) (n c : Nat), (binOp .eql 25 (.slice a n c) (.slice none 0 0)).run Tryz.prog W = .ok (.bool a.isNone) W := fun W a n c => Lib.run_eql_slice_nil W _ _ a n c 0 0 Tryz.underlying25
  cases p with
  | none =>
    have h0 : l = [] := by
      cases l with
      | nil => rfl
      | cons x r =>
        obtain ⟨b, off, hp, _⟩ := hc 0 (by simp)
        cases hp
    subst h0
    clear hc
    go_enter Tryz.func37, Tryz.ntmps37
    go_wp2_with fail
    go_ret
    exact ⟨none, 0, rfl, OwnF.start _ _, Below.refl _ _⟩
  | some ad =>
    have hnews : ∀ j u, (flat l)[j]? = some u → (w.alloc (.cells #[] 51)).cell? (ad.add j) = some u := by
      intro j u hj
      have hlj : j < (flat l).length := by
        rcases Nat.lt_or_ge j (flat l).length with h | h
        · exact h
        · rw [List.getElem?_eq_none h] at hj
          cases hj
      have hfl : (flat l).length = l.length * 2 := flat_length l
      have hk : j / 2 < l.length := by omega
      obtain ⟨b, off, hp, c1, c2⟩ := hc (j / 2) hk
      injection hp with hp
      subst hp
      have hadd : (⟨b, off, none⟩ : Addr).add j = ⟨b, off + j, none⟩ := by unfold Addr.add; split <;> simp_all
      rw [hadd]
      have hw : ∀ q x, w.cell? q = some x → (w.alloc (.cells #[] 51)).cell? q = some x := fun q x hq => touch_cell (P := fun _ => False) ((Touch.refl _ w).alloc _) id hq
      refine hw _ _ ?_
      have hat := flat_at l (j / 2) hk
      rcases Nat.mod_two_eq_zero_or_one j with hm | hm
      · have e : j = 2 * (j / 2) := by omega
        rw [← e] at hat c1
        rw [c1, ← hj, hat.1]
      · have e : j = 2 * (j / 2) + 1 := by omega
        have e2 : off + 2 * (j / 2) + 1 = off + j := by omega
        rw [← e] at hat
        rw [e2] at c2
        rw [c2, ← hj, hat.2]
    have HC := Lib.hid hnews
    have HL := Lib.hid hl
    clear hc hnews hl
    obtain ⟨i0, hi, hz0, hz1, hz2⟩ := info_parts info_field
    go_enter Tryz.func37, Tryz.ntmps37
    go_wp2_with (at_builtin; refine wpList_append_own _ rfl _ _ 25 rfl w.heap.size 51 i0 _ 2 32 Tryz.underlying25 hi hz0 hz1 hz2 rfl (by decide) _ _ _ rfl (OwnF.empty w) ad l.length c (flat l) rfl ?c1 HC.out ?c2 ?c3 ?c4 ?c5 ?_)
    case c1 => exact flat_length l
    case c2 => exact flat_one l
    case c3 => have := HL.out; unfold maxLen; simp; omega
    case c4 => have := HL.out; simp; omega
    case c5 => simp
    intro v' w1 hown1 hg _
    have hown2 : World.ownsRow w1 w.heap.size 51 2 v' l.length (flat l) := by
      have h := hown1
      rw [show flat [] = [] from rfl] at h
      simpa using h
    obtain ⟨p', c', rfl⟩ := own_slice hown2
    go_wp2_with fail
    go_ret
    exact ⟨p', c', rfl, hown2, ((Below.refl _ w).alloc (Nat.le_refl _) _).grown hg (by simp) (fun k hk => by simp [Value.ownBlock] at hk; omega)⟩
/-- The head that a parser tells. -/
def doneH (p : PaS) : Hd := if (p.fin && p.e == 0) = true then p.hd else hd0
end Go.Proofs.YtbglakhojbhfbaaGreatDoor
-- HdA
-- RdP
namespace Go.Proofs.YtbglakhojbhfbaaGreatDoor
open Go.RowKit
/-- How many octets these lines are. -/
def lsum (ls : List (List UInt8)) : Nat := (ls.map fun x => x.length + 2).sum
theorem lsum_snoc (ls : List (List UInt8)) (x : List UInt8) : lsum (ls ++ [x]) = lsum ls + x.length + 2 := by
  unfold lsum
  simp
  omega
theorem lsum_take (ls : List (List UInt8)) (k : Nat) : lsum (ls.take k) ≤ lsum ls := by
  have h : lsum ls = lsum (ls.take k) + lsum (ls.drop k) := by
    unfold lsum
    rw [← List.sum_append, ← List.map_append, List.take_append_drop]
  omega
theorem lsum_len (ls : List (List UInt8)) : ls.length ≤ lsum ls := by
  unfold lsum
  induction ls with
  | nil => exact Nat.le_refl _
  | cons x r ih =>
    simp at ih ⊢
    omega
theorem bt_list {S : ByteArray} {k : Nat} (hlt : k < S.size) {c : UInt8} (hc : S.data.toList[k]? = some c) : bt S k = c.toNat := by
  unfold bt
  rw [dif_pos hlt]
  have : S.data.toList[k]? = some S[k] := by rw [List.getElem?_eq_getElem (by rw [← Lib.size_eq]; exact hlt)]; rfl
  rw [this] at hc
  injection hc with hc
  rw [hc]
theorem beq_u8 (c n : UInt8) (m : Int) (hm : m = n.toNat) : decide (c = n) = ((c.toNat : Int) == m) := by
  subst hm
  by_cases e : c = n
  · subst e
    rw [decide_eq_true rfl]
    simp
  · rw [decide_eq_false e, eq_comm, beq_eq_false_iff_ne]
    intro k
    exact e (UInt8.toNat_inj.1 (by omega))
/-- What the loop of the reference's Read holds ahead of octet k. -/
structure RdSt (most : Int) (l : List UInt8) (R : List (List UInt8) × Bool × Nat × Int) (k f : Nat) (ls : List (List UInt8)) (cur : List UInt8) (turn : Bool) : Prop where
  r : R = (ls ++ (rdL most (l.drop k) k cur turn).1, (rdL most (l.drop k) k cur turn).2)
  n : f + cur.length + (if turn = true then 1 else 0) = k
  t : (l.drop f).take (k - f) = cur ++ (if turn = true then [13] else [])
  c : (13 : UInt8) ∉ cur
  s : lsum ls = f
theorem RdSt.start (most : Int) (l : List UInt8) : RdSt most l (rdL most l 0 [] false) 0 0 [] [] false := ⟨rfl, rfl, by simp, by simp, rfl⟩
theorem RdSt.le {most : Int} {l : List UInt8} {R : List (List UInt8) × Bool × Nat × Int} {k f : Nat} {ls : List (List UInt8)} {cur : List UInt8} {turn : Bool} (h : RdSt most l R k f ls cur turn) : f ≤ k := by
  have := h.n
  omega
theorem RdSt.within {most : Int} {l : List UInt8} {R : List (List UInt8) × Bool × Nat × Int} {k f : Nat} {ls : List (List UInt8)} {cur : List UInt8} {turn : Bool} (h : RdSt most l R k f ls cur turn) : (!cur.isEmpty || turn) = decide (f < k) := by
  have hn := h.n
  cases cur with
  | nil =>
    cases turn with
    | true => simp at hn ⊢; omega
    | false => simp at hn ⊢; omega
  | cons x r =>
    simp at hn ⊢
    omega
/-- The octet ahead. -/
theorem RdSt.last {most : Int} {l : List UInt8} {R : List (List UInt8) × Bool × Nat × Int} {k f : Nat} {ls : List (List UInt8)} {cur : List UInt8} {turn : Bool} (h : RdSt most l R k f ls cur turn) (hf : f < k) (hk : k ≤ l.length) {x : UInt8} (hx : l[k - 1]? = some x) : decide (x = 13) = turn := by
  have ht := h.t
  have hlen : ((l.drop f).take (k - f)).length = k - f := by rw [List.length_take, List.length_drop]; omega
  have hlast : ((l.drop f).take (k - f))[k - f - 1]? = some x := by
    rw [List.getElem?_take_of_lt (by omega), List.getElem?_drop, show f + (k - f - 1) = k - 1 by omega]
    exact hx
  rw [ht] at hlast hlen
  have hn := h.n
  cases turn with
  | true =>
    simp only [if_true] at hlast hn
    rw [List.getElem?_append_right (by omega), show k - f - 1 - cur.length = 0 by omega] at hlast
    simp at hlast
    rw [← hlast]
    rfl
  | false =>
    simp only [Bool.false_eq_true, if_false, List.append_nil] at hlast hn
    have hm := List.mem_of_getElem? hlast
    refine decide_eq_false (fun e => h.c ?_)
    rw [← e]
    exact hm
theorem take_one_more {α : Type} (l : List α) (f k : Nat) (hf : f ≤ k) {c : α} (hc : l[k]? = some c) : (l.drop f).take (k + 1 - f) = (l.drop f).take (k - f) ++ [c] := by
  have h1 : (l.drop f)[k - f]? = some c := by rw [List.getElem?_drop, show f + (k - f) = k by omega]; exact hc
  obtain ⟨hl, he⟩ := List.getElem?_eq_some_iff.1 h1
  rw [show k + 1 - f = k - f + 1 by omega, List.take_succ_eq_append_getElem hl, he]
theorem drop_at {α : Type} (l : List α) (k : Nat) {c : α} (hc : l[k]? = some c) : l.drop k = c :: l.drop (k + 1) := by
  obtain ⟨hl, he⟩ := List.getElem?_eq_some_iff.1 hc
  rw [List.drop_eq_getElem_cons hl, he]
section
variable {most : Int} {l : List UInt8} {R : List (List UInt8) × Bool × Nat × Int} {k f : Nat} {ls : List (List UInt8)} {cur : List UInt8} {turn : Bool}
theorem RdSt.long (h : RdSt most l R k f ls cur turn) {c : UInt8} (hc : l[k]? = some c) (hm : (k : Int) = most) : R = (ls, decide (f < k), k, 4) := by
  rw [h.r, drop_at l k hc, rdL, if_pos hm, h.within]
  simp
theorem RdSt.wrong (h : RdSt most l R k f ls cur turn) {c : UInt8} (hc : l[k]? = some c) (hm : (k : Int) ≠ most) (hw : turn ≠ decide (c = 10)) : R = (ls, decide (f < k), k, 8) := by
  rw [h.r, drop_at l k hc, rdL, if_neg hm, if_pos hw, h.within]
  simp
theorem RdSt.stop (h : RdSt most l R k f ls cur turn) (hk : l.length ≤ k) : R = (ls, decide (f < k), k, 0) := by
  rw [h.r, List.drop_of_length_le hk, rdL, h.within]
  simp
theorem RdSt.next (h : RdSt most l R k f ls cur turn) {c : UInt8} (hc : l[k]? = some c) (hm : (k : Int) ≠ most) (ht : turn = false) (h10 : c ≠ 10) : ∃ cur' turn', RdSt most l R (k + 1) f ls cur' turn' := by
  subst ht
  have hle := h.le
  have hr := h.r
  have hn := h.n
  have hx := h.t
  rw [drop_at l k hc, rdL, if_neg hm, if_neg (by rw [decide_eq_false h10]; simp)] at hr
  simp only [Bool.false_eq_true, if_false, List.append_nil] at hn hx
  by_cases h13 : c = 13
  · rw [if_pos h13] at hr
    refine ⟨cur, true, hr, by simp; omega, ?_, h.c, h.s⟩
    rw [take_one_more l f k hle hc, hx, h13]
    rfl
  · rw [if_neg h13, if_neg h10] at hr
    refine ⟨cur ++ [c], false, hr, by simp; omega, ?_, ?_, h.s⟩
    · rw [take_one_more l f k hle hc, hx]
      simp
    · intro hm2
      rcases List.mem_append.1 hm2 with hm2 | hm2
      · exact h.c hm2
      · exact h13 (List.mem_singleton.1 hm2).symm
theorem RdSt.line (h : RdSt most l R k f ls cur turn) {c : UInt8} (hc : l[k]? = some c) (hm : (k : Int) ≠ most) (ht : turn = true) (h10 : c = 10) : RdSt most l R (k + 1) (k + 1) (ls ++ [cur]) [] false := by
  subst ht
  have hr := h.r
  rw [drop_at l k hc, rdL, if_neg hm, if_neg (by rw [decide_eq_true h10]; simp), if_neg (by rw [h10]; decide), if_pos h10] at hr
  have hn := h.n
  refine ⟨?_, by simp, by simp, by simp, ?_⟩
  · rw [hr]
    simp
  · rw [lsum_snoc, h.s]
    simp at hn
    omega
theorem RdSt.text (h : RdSt most l R k f ls cur turn) (ht : turn = true) : (l.drop f).take (k - 1 - f) = cur := by
  subst ht
  have hn := h.n
  have hx := h.t
  simp only [if_true] at hn hx
  have h2 : k - 1 - f = cur.length := by omega
  rw [h2]
  have := congrArg (List.take cur.length) hx
  rw [List.take_take, Nat.min_eq_left (by omega)] at this
  rw [this]
  simp
end
theorem rdL_sum (most : Int) : ∀ (l : List UInt8) (i : Nat) (cur : List UInt8) (turn : Bool), lsum (rdL most l i cur turn).1 ≤ l.length + cur.length + (if turn = true then 1 else 0)
  | [], i, cur, turn => by
    show lsum [] ≤ _
    exact Nat.zero_le _
  | c :: r, i, cur, turn => by
    rw [rdL]
    split
    · exact Nat.zero_le _
    split
    · exact Nat.zero_le _
    split
    · have ih := rdL_sum most r (i + 1) cur true
      rename_i h1 h2 h3
      have ht : turn = false := by
        have := Decidable.not_not.1 h2
        rw [this, h3]
        rfl
      rw [ht]
      simp at ih ⊢
      omega
    split
    · have ih := rdL_sum most r (i + 1) [] false
      rename_i h1 h2 h3 h4
      have ht : turn = true := by
        have := Decidable.not_not.1 h2
        rw [this, h4]
        rfl
      rw [ht]
      unfold lsum at ih ⊢
      simp at ih ⊢
      omega
    · have ih := rdL_sum most r (i + 1) (cur ++ [c]) false
      rename_i h1 h2 h3 h4
      have ht : turn = false := by
        have := Decidable.not_not.1 h2
        rw [this]
        exact decide_eq_false h4
      rw [ht]
      simp at ih ⊢
      omega
end Go.Proofs.YtbglakhojbhfbaaGreatDoor
-- Read16
namespace Go.Proofs.YtbglakhojbhfbaaGreatDoor
open Go.RowKit
theorem results_tmp4 {fn : Func} {t u v x : Tmp} (h : fn.results = #[.tmp t, .tmp u, .tmp v, .tmp x]) (tmps : Array Value) (P : Program) (w : World) :
    (results fn tmps).run P w = .ok (.tuple #[tmps.getD t undef, tmps.getD u undef, tmps.getD v undef, tmps.getD x undef]) w := by
  simp [results, h]
end Go.Proofs.YtbglakhojbhfbaaGreatDoor
-- Read22
namespace Go.Proofs.YtbglakhojbhfbaaGreatDoor
open Go.RowKit
/-- What is read of octets. -/
structure GotS where
  hd : Hd
  used : Int
  fin : Bool
  e : Int
  begun : Bool
def GotS.row (g : GotS) (f : Value) : Array Value := #[.string g.hd.m, .string g.hd.t, .int .i64 g.hd.k, .int .i64 g.hd.n, .string g.hd.r, f, .int .i64 g.used, .bool g.fin, .int .i64 g.e, .bool g.begun]
def gotZ (q : Bool × Nat × Int) (z : Option ((Hd × Int) × Nat) × List ByteArray) : GotS :=
  match z with
  | (some (h, used), _) => ⟨h.1, used, true, h.2, true⟩
  | (none, got) => ⟨hd0, q.2.1, false, q.2.2, q.1 || !got.isEmpty⟩
def gotP (kind fields fold most : Int) (l : List UInt8) : GotS := gotZ (rdL most l 0 [] false).2 (scanP kind fields fold (rdL most l 0 [] false).1 0 [])
theorem blk_set10 {w : World} {g : Nat} {t : TypeId} {x0 x1 x2 x3 x4 x5 x6 x7 x8 x9 : Value} (h : Blk w g #[x0, x1, x2, x3, x4, x5, x6, x7, x8, x9] t) (y0 y1 y2 y3 y4 y5 y6 y7 y8 y9 : Value) :
    Blk ((((((((((w.setCell ⟨g, 0, none⟩ y0).setCell ⟨g, 1, none⟩ y1).setCell ⟨g, 2, none⟩ y2).setCell ⟨g, 3, none⟩ y3).setCell ⟨g, 4, none⟩ y4).setCell ⟨g, 5, none⟩ y5).setCell ⟨g, 6, none⟩ y6).setCell ⟨g, 7, none⟩ y7).setCell ⟨g, 8, none⟩ y8).setCell ⟨g, 9, none⟩ y9) g #[y0, y1, y2, y3, y4, y5, y6, y7, y8, y9] t := by
  have := ((((((((((h.set 0 (y0)).set 1 (y1)).set 2 (y2)).set 3 (y3)).set 4 (y4)).set 5 (y5)).set 6 (y6)).set 7 (y7)).set 8 (y8)).set 9 (y9))
  simpa using this
theorem below_set10 {w w' : World} {B g : Nat} (h : Below B w w') (hg : B ≤ g) (y0 y1 y2 y3 y4 y5 y6 y7 y8 y9 : Value) :
    Below B w ((((((((((w'.setCell ⟨g, 0, none⟩ y0).setCell ⟨g, 1, none⟩ y1).setCell ⟨g, 2, none⟩ y2).setCell ⟨g, 3, none⟩ y3).setCell ⟨g, 4, none⟩ y4).setCell ⟨g, 5, none⟩ y5).setCell ⟨g, 6, none⟩ y6).setCell ⟨g, 7, none⟩ y7).setCell ⟨g, 8, none⟩ y8).setCell ⟨g, 9, none⟩ y9) :=
  (((((((((h.setCell (p := ⟨g, 0, none⟩) hg y0).setCell (p := ⟨g, 1, none⟩) hg y1).setCell (p := ⟨g, 2, none⟩) hg y2).setCell (p := ⟨g, 3, none⟩) hg y3).setCell (p := ⟨g, 4, none⟩) hg y4).setCell (p := ⟨g, 5, none⟩) hg y5).setCell (p := ⟨g, 6, none⟩) hg y6).setCell (p := ⟨g, 7, none⟩) hg y7).setCell (p := ⟨g, 8, none⟩) hg y8).setCell (p := ⟨g, 9, none⟩) hg y9
theorem own_set10 {w : World} {B : Nat} {e : TypeId} {size : Nat} {v : Value} {n : Nat} {xs : List Value} (h : w.ownsRow B e size v n xs) {g : Nat} (hg : g < B) (y0 y1 y2 y3 y4 y5 y6 y7 y8 y9 : Value) :
    ((((((((((w.setCell ⟨g, 0, none⟩ y0).setCell ⟨g, 1, none⟩ y1).setCell ⟨g, 2, none⟩ y2).setCell ⟨g, 3, none⟩ y3).setCell ⟨g, 4, none⟩ y4).setCell ⟨g, 5, none⟩ y5).setCell ⟨g, 6, none⟩ y6).setCell ⟨g, 7, none⟩ y7).setCell ⟨g, 8, none⟩ y8).setCell ⟨g, 9, none⟩ y9).ownsRow B e size v n xs :=
  own_set (own_set (own_set (own_set (own_set (own_set (own_set (own_set (own_set (own_set h hg 0 y0) hg 1 y1) hg 2 y2) hg 3 y3) hg 4 y4) hg 5 y5) hg 6 y6) hg 7 y7) hg 8 y8) hg 9 y9
theorem tg_step {got : List ByteArray} {t : ByteArray} {A : Nat} (h : tot got + got.length ≤ A) : tot (got ++ [t]) + (got ++ [t]).length ≤ A + t.size + 2 := by
  rw [tot_snoc, List.length_append]
  simp only [List.length_singleton]
  omega
theorem meas_s {n k : Nat} (h : k < n) : n - (intOf (.int .i64 ((k : Int) + 1))).toNat < n - (intOf (.int .i64 (k : Int))).toNat := by
  simp [intOf]
  omega
theorem wrap_two {A T : Nat} (h : A + T + 2 ≤ 65536) : wrap64 ((A : Int) + (T : Int)) = (A : Int) + (T : Int) ∧ wrap64 ((A : Int) + (T : Int) + 2) = (A : Int) + (T : Int) + 2 := ⟨IntWalk.wrap64_in _ ⟨by omega, by omega⟩, IntWalk.wrap64_in _ ⟨by omega, by omega⟩⟩
end Go.Proofs.YtbglakhojbhfbaaGreatDoor
-- HdD

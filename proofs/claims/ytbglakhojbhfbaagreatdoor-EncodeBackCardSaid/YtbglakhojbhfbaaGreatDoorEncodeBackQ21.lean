/- Texts packed for one claim, 21 of 49: LnsW BdP LnFeed PaAt BdA BdB BdC BdD PLine PaOk. -/
import Derived.Test.YtbglakhojbhfbaaGreatDoorEncodeBackQ20
import Derived.Lib.BufferRead
import Derived.Test.YtbglakhojbhfbaaGreatDoorEncodeBackQ6
import Derived.Test.YtbglakhojbhfbaaGreatDoorEncodeBackQ3
import Derived.Test.YtbglakhojbhfbaaGreatDoorEncodeBackQ16
import Derived.Test.YtbglakhojbhfbaaGreatDoorEncodeBackQ2
set_option linter.unusedSimpArgs false
set_option linter.unusedVariables false
-- LnsW
namespace Go.Proofs.YtbglakhojbhfbaaGreatDoor
open Go.RowKit
set_option maxRecDepth 100000 in
theorem OwnB.conv {w : World} {B : Nat} {v : Value} {l : List UInt8} (h : OwnB w B v l) : (convert 61 9 v).run Tryz.prog w = .ok (.string (strL l)) w := by
  obtain ⟨_, h⟩ := h
  rcases h with ⟨rfl, h0⟩ | ⟨g, cap, cur, rfl, _, hg, k1, k2, k3, k4⟩
  · have : l = [] := List.eq_nil_of_length_eq_zero h0
    subst this
    exact Lib.run_convert_nil_bytes w 61 9 5 0 Tryz.underlying61 Tryz.underlying5 Tryz.underlying9
  · rw [Nat.mul_one] at k4
    have := run_convert_bytes_arg (P := Tryz.prog) w 61 5 Tryz.underlying61 Tryz.underlying5 g 0 l.length cap (l.map fun b : UInt8 => (b.toNat : Int)) (by simp) (fun i hi => by
      have a : (l.map fun b => Value.int .u8 b.toNat)[i]? = some (.int .u8 l[i].toNat) := by rw [List.getElem?_map, List.getElem?_eq_getElem hi]; rfl
      rw [← k4, List.getElem?_take, if_pos (by omega), Array.getElem?_toList] at a
      simp only [World.cell?, hg, Nat.zero_add]
      rw [a, List.getD_eq_getElem?_getD, List.getElem?_map, List.getElem?_eq_getElem hi]
      rfl) 9 Tryz.underlying9
    rw [this]
    congr 2
    unfold strOfNums strL
    simp [Function.comp_def]
set_option maxRecDepth 100000 in
theorem OwnB.cut {w : World} {B : Nat} {v : Value} {l : List UInt8} (h : OwnB w B v l) : ∃ p0 c0, (Value.slice p0 0 c0).ownBlock = v.ownBlock ∧ OwnB w B (.slice p0 0 c0) [] ∧ ∀ W, (Instr.slice 61 v none (some (.int .i64 0)) none).run Tryz.prog W = .ok (.slice p0 0 c0) W := by
  obtain ⟨h1, h⟩ := h
  obtain ⟨i0, hi, _⟩ := info_parts info_byte
  rcases h with ⟨rfl, h0⟩ | ⟨g, cap, cur, rfl, hB, hg, k1, k2, k3, k4⟩
  · refine ⟨none, 0, rfl, OwnB.start w B, fun W => ?_⟩
    rw [run_slice_h W 61 none 0 0 Tryz.underlying61 .i64 0 (by decide) (by decide)]
    rw [run_sizeOf (t := Tryz.prog.elem 61) (i := i0) W hi]
    rfl
  · refine ⟨some ⟨g, 0, none⟩, cap, rfl, ⟨by simp, Or.inr ⟨g, cap, cur, rfl, hB, hg, Nat.zero_le _, k2, k3, rfl⟩⟩, fun W => ?_⟩
    rw [run_slice_h W 61 (some ⟨g, 0, none⟩) l.length cap Tryz.underlying61 .i64 0 (by decide) (by omega)]
    rw [run_sizeOf (t := Tryz.prog.elem 61) (i := i0) W hi]
    simp only [Result.andThen]
    unfold sliced
    simp [Addr.add]
theorem LnAt.drew {w : World} {g B : Nat} {v : Value} {s : LnS} (h : LnAt w g B v s) : LnAt w.drew g B v s := ⟨h.b.drew, h.o, h.lt, h.sz⟩
set_option maxRecDepth 100000 in
theorem lnew_nil (n : Int) (h : n < 0 ∨ 65536 < n) (w : World) : Calls Tryz.prog 25 #[.int .i64 n] w fun e w' => e = .returned (.pointer none) ∧ w' = w := by
  by_cases h0 : n < 0
  · have d0 : decide (n < 0) = true := decide_eq_true h0
    clear h
    go_enter Tryz.func25, Tryz.ntmps25
    go_wp2_with fail
    go_ret
    exact ⟨rfl, rfl⟩
  · have d0 : decide (n < 0) = false := decide_eq_false h0
    have d1 : decide (n > 65536) = true := decide_eq_true (by omega)
    clear h h0
    go_enter Tryz.func25, Tryz.ntmps25
    go_wp2_with fail
    go_ret
    exact ⟨rfl, rfl⟩
def ln0 (n : Int) : LnS := ⟨n, 0, [], false, false, false, 0⟩
set_option maxRecDepth 100000 in
theorem lnew_any (n : Int) (h0 : 0 ≤ n) (h1 : n ≤ 65536) (w : World) : Calls Tryz.prog 25 #[.int .i64 n] w fun e w' => e = .returned (.pointer (some ⟨w.heap.size, 0, none⟩)) ∧ w' = w.alloc (.cells ((ln0 n).row (.slice none 0 0)) 88) := by
  have d0 : decide (n < 0) = false := decide_eq_false (by omega)
  have d1 : decide (n > 65536) = false := decide_eq_false (by omega)
  clear h0 h1
  go_enter Tryz.func25, Tryz.ntmps25
  go_wp2_with fail
  go_ret
  exact ⟨rfl, rfl⟩
set_option maxRecDepth 100000 in
theorem lwhole_any {w : World} {g B : Nat} {v : Value} {s : LnS} (h : LnAt w g B v s) : Calls Tryz.prog 59 #[.pointer (some ⟨g, 0, none⟩)] w fun e w' => e = .returned (.bool s.whole) ∧ w = w' := by
  have a5 : w.cell? ⟨g, 5, none⟩ = some (.bool s.whole) := h.b.cell 5
  clear h
  go_enter Tryz.func59, Tryz.ntmps59
  go_wp2_with fail
  go_ret
  exact ⟨rfl, rfl⟩
set_option maxRecDepth 100000 in
theorem lline_any {w : World} {g B : Nat} {v : Value} {s : LnS} (h : LnAt w g B v s) (hw : s.whole = true) : Calls Tryz.prog 49 #[.pointer (some ⟨g, 0, none⟩)] w fun e w' => e = .returned (.string (strL s.line)) ∧
    ∃ v', LnAt w' g B v' { s with line := [], whole := false } ∧ Touch (fun j => j = g) w w' ∧ v'.ownBlock = v.ownBlock := by
  obtain ⟨L, S, Ln, Wi, Tu, Wh, E⟩ := s
  simp only at hw
  subst hw
  obtain ⟨p0, c0, hv0, ho0, hsl⟩ := h.o.cut
  have a2 : w.cell? ⟨g, 2, none⟩ = some v := h.b.cell 2
  have f2 : w.frozen? ⟨g, 2, none⟩ = false := h.b.froz 2
  have a5 : w.cell? ⟨g, 5, none⟩ = some (.bool true) := h.b.cell 5
  have f5 : w.frozen? ⟨g, 5, none⟩ = false := h.b.froz 5
  have hcv := h.o.conv
  have H := Lib.hid h
  have HW := Lib.hid (lwhole_any h)
  have HV := Lib.hid hv0
  have HO := Lib.hid ho0
  clear h hv0 ho0
  go_enter Tryz.func49, Tryz.ntmps49
  go_wp2_with (go_at_call 59; refine HW.out.mono ?_; rintro e1 w1 ⟨rfl, rfl⟩)
  go_ret
  refine ⟨rfl, .slice p0 0 c0, ⟨(H.out.b.set 2 (.slice p0 0 c0)).set 5 (.bool false), own_touch HO.out (((Touch.refl (fun j => j = g) w).setCell (p := ⟨g, 2, none⟩) rfl (.slice p0 0 c0)).setCell (p := ⟨g, 5, none⟩) rfl (.bool false)) (fun k hk e => absurd (H.out.o.lt k (HV.out ▸ hk)).1 (by have := H.out.lt; omega)), H.out.lt, ?_⟩, ((Touch.refl (fun j => j = g) w).setCell (p := ⟨g, 2, none⟩) rfl (.slice p0 0 c0)).setCell (p := ⟨g, 5, none⟩) rfl (.bool false), HV.out⟩
  have := (((Touch.refl (fun j => j = g) w).setCell (p := ⟨g, 2, none⟩) rfl (.slice p0 0 c0)).setCell (p := ⟨g, 5, none⟩) rfl (.bool false)).size
  exact Nat.le_trans H.out.sz this
end Go.Proofs.YtbglakhojbhfbaaGreatDoor
-- BdP
namespace Go.Proofs.YtbglakhojbhfbaaGreatDoor
open Go.RowKit
/-- A piece: its kind, its number, its text. -/
structure Pc where
  k : Int
  n : Int
  t : ByteArray
def pcFlat (l : List Pc) : List Value := l.flatMap fun p => [.int .i64 p.k, .int .i64 p.n, .string p.t]
theorem pcFlat_append (a b : List Pc) : pcFlat (a ++ b) = pcFlat a ++ pcFlat b := by unfold pcFlat; rw [List.flatMap_append]
theorem pcFlat_length (l : List Pc) : (pcFlat l).length = l.length * 3 := by
  induction l with
  | nil => rfl
  | cons p t ih =>
    have e : pcFlat (p :: t) = [.int .i64 p.k, .int .i64 p.n, .string p.t] ++ pcFlat t := rfl
    rw [e, List.length_append, ih]
    simp
    omega
/-- What comes next. -/
inductive Md where
  | nothing | sized | rest | size | data | cr | lf | trailer
/-- The limits: of a head, of fields, of a line, of a body, the fold. -/
structure Lm where
  head : Int
  fields : Int
  line : Int
  body : Int
  fold : Int
/-- What a decoder holds. -/
structure BdS where
  md : Md
  left : Int
  ln : LnS
  all : List ByteArray
  tr : List Fd
  till : Bool
  over : Bool
  e : Int
  out : List Pc
def BdS.opens (s : BdS) : Bool := !s.over && s.e == 0
def BdS.put (s : BdS) (p : Pc) : BdS := { s with out := s.out ++ [p] }
def BdS.wrong (s : BdS) (e : Int) : BdS := ({ s with e := e }).put ⟨5, e, ⟨#[]⟩⟩
def BdS.ends (s : BdS) : BdS := ({ s with over := true }).put ⟨4, 0, ⟨#[]⟩⟩
def BdS.rest (s : BdS) (x : List UInt8) : BdS := s.put ⟨3, 0, ⟨x.toArray⟩⟩
/-- As many octets as are left. -/
def BdS.some (s : BdS) (x : List UInt8) : BdS × Nat :=
  (({ s with left := s.left - (min (x.length : Int) s.left) }).rest (x.take (min (x.length : Int) s.left).toNat), (min (x.length : Int) s.left).toNat)
/-- A line, fed: what is held, how many octets are used, whether the line is whole. -/
def BdS.whole (s : BdS) (x : List UInt8) : BdS × Nat × Bool :=
  let l := lnFeed x s.ln
  let s' : BdS := { s with ln := l.1 }
  (if l.1.e = 0 then s' else s'.wrong l.1.e, l.2, l.1.whole)
def hxdB (b : UInt8) : Bool := digB 16 b
/-- A chunk's line: its size, the error. -/
def chunkP (l : List UInt8) : Int × Int :=
  if l = [] then (0, 2)
  else if l.takeWhile hxdB = [] then (0, 3)
  else match l.dropWhile hxdB with
    | [] => numRes (l.takeWhile hxdB) 16 2147483647
    | c :: r => if (wordP ⟨(120 :: c :: r).toArray⟩).2.2 = 0 ∧ (c = 59 ∨ c = 32 ∨ c = 9) then numRes (l.takeWhile hxdB) 16 2147483647 else (0, 3)
/-- One step: what is held behind it, how many octets it used. -/
def bStep (m : Lm) (s : BdS) (x : List UInt8) : BdS × Nat :=
  match s.md with
  | .nothing => (s, 0)
  | .rest => (s.rest x, x.length)
  | .sized =>
    let r := s.some x
    (if r.1.left = 0 then r.1.ends else r.1, r.2)
  | .data =>
    let r := s.some x
    (if r.1.left = 0 then { r.1 with md := .cr } else r.1, r.2)
  | .cr => if x.head? = some 13 then ({ s with md := .lf }, 1) else (s.wrong 3, 0)
  | .lf => if x.head? = some 10 then ({ s with ln := ln0 m.line, md := .size }, 1) else (s.wrong 3, 0)
  | .size =>
    let r := s.whole x
    if r.2.2 = false then (r.1, r.2.1)
    else
      let c := chunkP r.1.ln.line
      let s' : BdS := { r.1 with ln := { r.1.ln with line := [], whole := false } }
      (if c.2 ≠ 0 then s'.wrong c.2 else if c.1 = 0 then { s' with ln := ln0 m.head, md := .trailer } else { (s'.put ⟨2, c.1, ⟨#[]⟩⟩) with left := c.1, md := .data }, r.2.1)
  | .trailer =>
    let r := s.whole x
    if r.2.2 = false then (r.1, r.2.1)
    else
      let line := r.1.ln.line
      let s' : BdS := { r.1 with ln := { r.1.ln with line := [], whole := false } }
      (if line ≠ [] then { s' with all := s'.all ++ [strL line] }
       else
        let a := allF m.fold s'.all
        if m.fields < (s'.all.length : Int) then s'.wrong 4 else if a.2 ≠ 0 then s'.wrong a.2 else ({ s' with tr := a.1 }).ends, r.2.1)
/-- Feed: so many steps at most. -/
def bRun (m : Lm) : Nat → BdS → List UInt8 → BdS × Nat
  | 0, s, _ => (s, 0)
  | f + 1, s, x => if x = [] ∨ s.opens = false then (s, 0) else ((bRun m f (bStep m s x).1 (x.drop (bStep m s x).2)).1, (bStep m s x).2 + (bRun m f (bStep m s x).1 (x.drop (bStep m s x).2)).2)
def bTold (s : BdS) : BdS := { s with out := [] }
def bClose (s : BdS) : BdS := if s.opens = true then (if s.till = true then s.ends else s.wrong 19) else s
/-- A new decoder, of the frame's kind and length. -/
def bNew (m : Lm) (kind len : Int) : BdS :=
  let s : BdS := ⟨.nothing, len, ln0 m.line, [], [], false, false, 0, []⟩
  if len < 0 ∨ m.line < 0 ∨ 65536 < m.line ∨ m.head < 0 ∨ 65536 < m.head then s.wrong 1
  else if kind = 0 then s.ends
  else if kind = 1 then (if len = 0 then ({ s with md := .sized }).ends else { s with md := .sized })
  else if kind = 2 then { s with md := .size }
  else if kind = 3 then { s with md := .rest, till := true }
  else s.wrong 1
theorem bClose_shut (s : BdS) : (bClose s).opens = false := by
  unfold bClose
  split
  · split
    · rfl
    · unfold BdS.wrong BdS.put BdS.opens
      simp
  · rename_i h
    exact Bool.eq_false_iff.2 h
end Go.Proofs.YtbglakhojbhfbaaGreatDoor
-- LnFeed
namespace Go.Proofs.YtbglakhojbhfbaaGreatDoor
open Go.RowKit
/-- How much Lines may hold. -/
structure LnOk (s : LnS) : Prop where
  l0 : 0 ≤ s.left
  s0 : 0 ≤ s.spent
  m : s.left + s.spent ≤ 65536
  t : (s.line.length : Int) ≤ s.spent
theorem seeP_ok {s : LnS} (h : LnOk s) (c : UInt8) : LnOk (seeP s c).1 := by
  obtain ⟨h1, h2, h3, h4⟩ := h
  unfold seeP
  repeat' split
  all_goals first
    | exact ⟨h1, h2, h3, h4⟩
    | (constructor <;> simp <;> omega)
theorem lnOk_e {s : LnS} (h : LnOk s) (e : Int) : LnOk { s with e := e } := ⟨h.l0, h.s0, h.m, h.t⟩
theorem lnFeed_ok : ∀ (l : List UInt8) (s : LnS), LnOk s → LnOk (lnFeed l s).1
  | [], s, h => h
  | c :: r, s, h => by
    rw [lnFeed]
    split
    · exact h
    split
    · exact lnFeed_ok r _ (lnOk_e (seeP_ok h c) 0)
    · exact lnOk_e (seeP_ok h c) _
theorem LnAt.setE {w : World} {g B : Nat} {v : Value} {s : LnS} (h : LnAt w g B v s) (e : Int) : LnAt (w.setCell ⟨g, 6, none⟩ (.int .i64 e)) g B v { s with e := e } := by
  have T := (Touch.refl (fun j => j = g) w).setCell (p := ⟨g, 6, none⟩) rfl (.int .i64 e)
  exact ⟨h.b.set 6 (.int .i64 e), own_touch h.o T (fun k hk e => absurd (h.o.lt k hk).1 (by have := h.lt; omega)), h.lt, Nat.le_trans h.sz T.size⟩
theorem LnAt.drewN {w : World} {g B : Nat} {v : Value} {s : LnS} (h : LnAt w g B v s) (n : Nat) : LnAt (w.drewN n) g B v s := ⟨h.b.drewN n, h.o, h.lt, h.sz⟩
/-- Whether no error is held. -/
def eM (g : Nat) (w : World) : Nat := match w.cell? ⟨g, 6, none⟩ with
  | some (.int _ e) => if e = 0 then 1 else 0
  | _ => 0
theorem eM_1 {g : Nat} {w : World} (h : w.cell? ⟨g, 6, none⟩ = some (.int .i64 0)) : eM g w = 1 := by unfold eM; rw [h]; rfl
theorem eM_0 {g : Nat} {w : World} {e : Int} (h : w.cell? ⟨g, 6, none⟩ = some (.int .i64 e)) (he : e ≠ 0) : eM g w = 0 := by
  unfold eM
  rw [h]
  exact if_neg he
set_option maxRecDepth 100000 in
set_option maxHeartbeats 2000000 in
theorem lfeed_any {w : World} {g B : Nat} {v : Value} {s : LnS} (h : LnAt w g B v s) (hs : LnOk s) (S : ByteArray) (hS : S.size ≤ 1000000) :
    Calls Tryz.prog 58 #[.pointer (some ⟨g, 0, none⟩), .string S] w fun e w' => e = .returned (.tuple #[.int .i64 (lnFeed S.data.toList s).2, .int .i64 (lnFeed S.data.toList s).1.e]) ∧
      ∃ v', LnAt w' g B v' (lnFeed S.data.toList s).1 ∧ Touch (LnP g v) w w' ∧ (v'.ownBlock = v.ownBlock ∨ ∀ k, v'.ownBlock = some k → w.heap.size ≤ k) := by
  obtain ⟨R, hR⟩ : ∃ R, R = lnFeed S.data.toList s := ⟨_, rfl⟩
  rw [← hR]
  have H := Lib.hid h
  have HR := Lib.hid hR
  have HS := Lib.hid hs
  have hn : S.data.toList.length = S.size := (Lib.size_eq S).symm
  have HN := Lib.hid hn
  have HB := Lib.hid (h.o.lt)
  clear h hR hs hn
  go_enter Tryz.func58, Tryz.ntmps58
  go_wp2_with fail
  go_loopw [4] (fun u4 wr => ∃ (k : Nat) (sk : LnS) (vk : Value), k ≤ S.size ∧ u4 = .int .i64 k ∧ LnAt wr g B vk sk ∧ LnOk sk ∧ R = ((lnFeed (S.data.toList.drop k) sk).1, k + (lnFeed (S.data.toList.drop k) sk).2) ∧ Touch (LnP g v) w wr ∧ (vk.ownBlock = v.ownBlock ∨ ∀ j, vk.ownBlock = some j → w.heap.size ≤ j)) (fun u4 wr => 2 * (S.size - (intOf u4).toNat) + eM g wr)
  case atStart => exact ⟨0, s, v, Nat.zero_le _, rfl, H.out, HS.out, by rw [HR.out, List.drop_zero, Nat.zero_add], Touch.refl _ _, Or.inl rfl⟩
  case round =>
    obtain ⟨k, sk, vk, hk, rfl, hat, hok, hpre, htc, hbl⟩ := hrel
    have HA := Lib.hid hat
    have HO := Lib.hid hok
    have HP := Lib.hid hpre
    have HT := Lib.hid htc
    have HL := Lib.hid hbl
    clear hpre htc hbl
    obtain ⟨WH, hWH⟩ : ∃ b, b = sk.whole := ⟨_, rfl⟩
    obtain ⟨E, hE⟩ : ∃ b, b = sk.e := ⟨_, rfl⟩
    have a5 : wr.cell? ⟨g, 5, none⟩ = some (.bool WH) := by rw [hWH]; exact hat.b.cell 5
    have a6 : wr.cell? ⟨g, 6, none⟩ = some (.int .i64 E) := by rw [hE]; exact hat.b.cell 6
    have f6 : wr.frozen? ⟨g, 6, none⟩ = false := hat.b.froz 6
    have HW := Lib.hid hWH
    have HE := Lib.hid hE
    clear hWH hE hat hok
    by_cases hlt : k < S.size
    · have hk1 : decide ((k : Int) < (S.size : Int)) = true := decide_eq_true (by omega)
      cases WH with
      | true =>
        have hfin : R = (sk, k) := by rw [HP.out, lnFeed_stop _ _ (Or.inl HW.out.symm)]; rfl
        have HF := Lib.hid hfin
        clear hfin
        go_wp2_with fail
        refine wp_region_drewZ (by kernel_rfl) (by kernel_rfl) ?_
        repeat go_big_quiet_step (fail)
        refine wpQuiet_nil ?_
        rintro _ ⟨nq, rfl⟩
        go_wp2_with fail
        go_ret2
        exact ⟨by rw [HF.out, ← HE.out]; rfl, vk, by rw [HF.out]; exact HA.out.drewN nq, HT.out.drewN nq, HL.out⟩
      | false =>
        by_cases he : E = 0
        · subst he
          obtain ⟨c, hc⟩ : ∃ c, S.data.toList[k]? = some c := ⟨_, List.getElem?_eq_getElem (by have := HN.out; omega)⟩
          have hbt : bt S k = c.toNat := by
            unfold bt
            rw [dif_pos hlt]
            have : S.data.toList[k]? = some S[k] := by rw [List.getElem?_eq_getElem (by have := HN.out; omega)]; rfl
            rw [this] at hc
            injection hc with hc
            rw [hc]
          have hix : ∀ W : World, (Instr.index 9 (.string S) (.int .i64 (k : Int))).run Tryz.prog W = .ok (.int .u8 (bt S k)) W := index_bt S k hlt
          obtain ⟨x, hx⟩ : ∃ x : Int, x = bt S k := ⟨_, rfl⟩
          rw [← hx] at hix hbt
          obtain ⟨q, hq⟩ : ∃ q, q = seeP sk c := ⟨_, rfl⟩
          have hstep : lnFeed (S.data.toList.drop k) sk = if q.2 = 0 then ((lnFeed (S.data.toList.drop (k + 1)) { q.1 with e := 0 }).1, (lnFeed (S.data.toList.drop (k + 1)) { q.1 with e := 0 }).2 + 1) else ({ q.1 with e := q.2 }, 0) := by
            have hkl : k < S.data.toList.length := by have := HN.out; omega
            have : S.data.toList[k] = c := by rw [List.getElem?_eq_getElem hkl] at hc; injection hc
            rw [List.drop_eq_getElem_cons hkl, this, lnFeed, if_neg (by rw [← HW.out, ← HE.out]; simp), ← hq]
          have HST := Lib.hid hstep
          have HQ := Lib.hid (show LnOk q.1 by rw [hq]; exact seeP_ok HO.out c)
          have HSEE := Lib.hid (see_any HA.out c x hbt HO.out.l0 (by have := HO.out.m; have := HO.out.s0; omega) HO.out.s0 (by have := HO.out.m; have := HO.out.l0; omega) (by have := HO.out.t; have := HO.out.m; have := HO.out.l0; omega))
          rw [← hq] at HSEE
          clear hstep hq hbt hx hc
          obtain ⟨q1, q2⟩ := q
          by_cases h0 : q2 = 0
          · subst h0
            go_wp2_with (go_at_call 67; refine HSEE.out.mono ?_; rintro e' w3 ⟨rfl, v3, hat3, ht3, hb3⟩; have f6 : w3.frozen? ⟨g, 6, none⟩ = false := hat3.b.froz 6; have a6 : w3.cell? ⟨g, 6, none⟩ = some (.int .i64 q1.e) := hat3.b.cell 6; have HA3 := Lib.hid hat3; have HT3 := Lib.hid ht3; have HB3 := Lib.hid hb3; clear hat3 ht3 hb3)
            go_roundw
            case rel =>
              refine ⟨k + 1, { q1 with e := 0 }, v3, hlt, by go_num, HA3.out.setE 0, lnOk_e HQ.out 0, ?_, ?_, ?_⟩
              · rw [HP.out, HST.out, if_pos trivial]
                refine Prod.ext rfl ?_
                show k + (_ + 1) = k + 1 + _
                omega
              · refine touch_into HT.out (HT3.out.setCell (p := ⟨g, 6, none⟩) (Or.inl rfl) _) (fun i hi hp => ?_)
                rcases hp with hp | hp
                · exact Or.inl hp
                · rcases HL.out with hl | hl
                  · exact Or.inr (hl ▸ hp)
                  · exact absurd (hl i hp) (by omega)
              · rcases HB3.out with hb | hb
                · rw [hb]; exact HL.out
                · exact Or.inr (fun j hj => Nat.le_trans HT.out.size (hb j hj))
            case measure =>
              rw [eM_1 ((HA.out.b.cell 6).trans (by show some (Value.int .i64 sk.e) = _; rw [← HE.out])), eM_1 ((HA3.out.setE 0).b.cell 6)]
              simp [intOf]
              omega
          · have h1 : (q2 == 0) = false := by rw [beq_eq_false_iff_ne]; exact h0
            have H0 := Lib.hid h0
            clear h0
            go_wp2_with (go_at_call 67; refine HSEE.out.mono ?_; rintro e' w3 ⟨rfl, v3, hat3, ht3, hb3⟩; have f6 : w3.frozen? ⟨g, 6, none⟩ = false := hat3.b.froz 6; have a6 : w3.cell? ⟨g, 6, none⟩ = some (.int .i64 q1.e) := hat3.b.cell 6; have HA3 := Lib.hid hat3; have HT3 := Lib.hid ht3; have HB3 := Lib.hid hb3; clear hat3 ht3 hb3)
            go_roundw
            case rel =>
              refine ⟨k, { q1 with e := q2 }, v3, hk, rfl, HA3.out.setE q2, lnOk_e HQ.out q2, ?_, ?_, ?_⟩
              · rw [HP.out, HST.out, if_neg H0.out, lnFeed_stop _ _ (Or.inr H0.out)]
              · refine touch_into HT.out (HT3.out.setCell (p := ⟨g, 6, none⟩) (Or.inl rfl) _) (fun i hi hp => ?_)
                rcases hp with hp | hp
                · exact Or.inl hp
                · rcases HL.out with hl | hl
                  · exact Or.inr (hl ▸ hp)
                  · exact absurd (hl i hp) (by omega)
              · rcases HB3.out with hb | hb
                · rw [hb]; exact HL.out
                · exact Or.inr (fun j hj => Nat.le_trans HT.out.size (hb j hj))
            case measure =>
              rw [eM_1 ((HA.out.b.cell 6).trans (by show some (Value.int .i64 sk.e) = _; rw [← HE.out])), eM_0 ((HA3.out.setE q2).b.cell 6) H0.out]
              simp [intOf]
        · have h1 : (E == 0) = false := by rw [beq_eq_false_iff_ne]; exact he
          have hfin : R = (sk, k) := by rw [HP.out, lnFeed_stop _ _ (Or.inr (HE.out ▸ he))]; rfl
          have HF := Lib.hid hfin
          clear hfin
          go_wp2_with fail
          refine wp_region_drewZ (by kernel_rfl) (by kernel_rfl) ?_
          repeat go_big_quiet_step (fail)
          refine wpQuiet_nil ?_
          rintro _ ⟨nq, rfl⟩
          go_wp2_with fail
          go_ret2
          exact ⟨by rw [HF.out, ← HE.out]; rfl, vk, by rw [HF.out]; exact HA.out.drewN nq, HT.out.drewN nq, HL.out⟩
    · have hk1 : decide ((k : Int) < (S.size : Int)) = false := decide_eq_false (by omega)
      have hfin : R = (sk, k) := by
        rw [HP.out, List.drop_of_length_le (by have := HN.out; omega)]
        rfl
      have HF := Lib.hid hfin
      clear hfin
      go_wp2_with fail
      refine wp_region_drewZ (by kernel_rfl) (by kernel_rfl) ?_
      repeat go_big_quiet_step (fail)
      refine wpQuiet_nil ?_
      rintro _ ⟨nq, rfl⟩
      go_wp2_with fail
      go_ret2
      exact ⟨by rw [HF.out, ← HE.out]; rfl, vk, by rw [HF.out]; exact HA.out.drewN nq, HT.out.drewN nq, HL.out⟩
end Go.Proofs.YtbglakhojbhfbaaGreatDoor
-- PaAt
namespace Go.Proofs.YtbglakhojbhfbaaGreatDoor
open Go.RowKit
theorem LnAt.touch {P : Nat → Prop} {w w1 : World} {g B : Nat} {v : Value} {s : LnS} (h : LnAt w g B v s) (t : Touch P w w1) (hg : ¬ P g) (hv : ∀ k, v.ownBlock = some k → ¬ P k) : LnAt w1 g B v s :=
  ⟨h.b.touch t hg, own_touch h.o t hv, h.lt, Nat.le_trans h.sz t.size⟩
theorem touch_cell {P : Nat → Prop} {w w1 : World} {p : Addr} {v : Value} (h : Touch P w w1) (hp : ¬ P p.block) (hc : w.cell? p = some v) : w1.cell? p = some v := by
  have hlt := World.block_lt_of_cell? w p hc
  rw [← hc]
  unfold World.cell?
  rw [h.block p.block hlt hp]
/-- The row of a parser. -/
def paRow (g : Nat) (va vf : Value) (kind a fields c d fold : Int) (p : PaS) : Array Value := #[.pointer (some ⟨g, 0, none⟩), .int .i64 kind, .int .i64 a, .int .i64 fields, .int .i64 c, .int .i64 d, .int .i64 fold, va, .bool p.fin, .string p.hd.m, .string p.hd.t, .int .i64 p.hd.k, .int .i64 p.hd.n, .string p.hd.r, vf, .int .i64 p.e]
theorem OwnS.lt {w : World} {B : Nat} {v : Value} {l : List ByteArray} (h : OwnS w B v l) : ∀ k, v.ownBlock = some k → B ≤ k ∧ k < w.heap.size := by
  intro k hk
  obtain ⟨_, h2⟩ := h
  rcases h2 with ⟨rfl, _⟩ | ⟨g', cap, cur, rfl, hB, hg, _⟩
  · cases hk
  · have : g' = k := by injection hk
    subst this
    exact ⟨hB, (Array.getElem?_eq_some_iff.1 hg).1⟩
theorem OwnF.lt {w : World} {B : Nat} {v : Value} {l : List Fd} (h : OwnF w B v l) : ∀ k, v.ownBlock = some k → B ≤ k ∧ k < w.heap.size := by
  intro k hk
  obtain ⟨_, h2⟩ := h
  rcases h2 with ⟨rfl, _⟩ | ⟨g', cap, cur, rfl, hB, hg, _⟩
  · cases hk
  · have : g' = k := by injection hk
    subst this
    exact ⟨hB, (Array.getElem?_eq_some_iff.1 hg).1⟩
theorem OwnS.capok {w : World} {B : Nat} {v : Value} {l : List ByteArray} (h : OwnS w B v l) : CapOk v := by
  obtain ⟨_, h2⟩ := h
  rcases h2 with ⟨rfl, _⟩ | ⟨g', cap, cur, rfl, hB, hg, h3, _⟩
  · exact Nat.le_refl _
  · exact h3
/-- The blocks that a parser writes. -/
def PaP (b g : Nat) (vl va : Value) (j : Nat) : Prop := j = b ∨ j = g ∨ vl.ownBlock = some j ∨ va.ownBlock = some j
end Go.Proofs.YtbglakhojbhfbaaGreatDoor
-- BdA
namespace Go.Proofs.YtbglakhojbhfbaaGreatDoor
open Go.RowKit
/-- A row that the call owns: its block's type. -/
theorem own_ty {w : World} {B : Nat} {e : TypeId} {size n : Nat} {v : Value} {xs : List Value} (h : w.ownsRow B e size v n xs) : ∀ k, v.ownBlock = some k → B ≤ k ∧ ∃ cs, Blk w k cs e := by
  intro k hk
  obtain ⟨_, h⟩ := h
  rcases h with ⟨rfl, _⟩ | ⟨g, cap, cur, rfl, hB, hg, _⟩
  · cases hk
  · cases hk
    exact ⟨hB, cur, hg⟩
/-- Blocks of these types alone. -/
def OfTy (w : World) (P : Nat → Prop) (l : List TypeId) : Prop := ∀ j, P j → ∃ cs t, t ∈ l ∧ Blk w j cs t
theorem OfTy.not {w : World} {P : Nat → Prop} {l : List TypeId} (h : OfTy w P l) {k : Nat} {cs : Array Value} {t : TypeId} (hb : Blk w k cs t) (ht : t ∉ l) : ¬ P k := by
  intro hp
  obtain ⟨cs', t', hm, hb'⟩ := h k hp
  exact hb.ne hb' (fun e => ht (e ▸ hm)) rfl
theorem OfTy.own {w : World} {P : Nat → Prop} {l : List TypeId} (h : OfTy w P l) {B : Nat} {e : TypeId} {size n : Nat} {v : Value} {xs : List Value} (hr : w.ownsRow B e size v n xs) (ht : e ∉ l) : ∀ k, v.ownBlock = some k → ¬ P k := fun k hk => by
  obtain ⟨_, cs, hb⟩ := own_ty hr k hk
  exact h.not hb ht
def OwnPc (w : World) (B : Nat) (v : Value) (l : List Pc) : Prop := w.ownsRow B 79 3 v l.length (pcFlat l)
theorem OwnPc.start (w : World) (B : Nat) : OwnPc w B (.slice none 0 0) [] := World.ownsRow_nil _ _ _ _
theorem info_piece : (Tryz.prog.info? 79).map (fun i => (i.zero, i.size, i.bytes)) = some (some (.agg #[.int .i64 0, .int .i64 0, .string ⟨#[]⟩]), 3, 32) := by kernel_rfl
/-- One piece more behind the row, at a step of a region that draws its order. -/
theorem step_push_pc {ops : Array Oper} {o : Oper} {a : Act} {K : Act → World → Prop} {Q : Exit → Act → World → Prop} {E : Prop} (hgd : o.guard = none) (s x : Operand)
    (ho : o.op = .call { callee := .builtin .append, args := #[s, x], argTypes := #[39, 39] }) {w : World} {B : Nat} {v : Value} {l : List Pc} (hs : a.eval s = v) (hown : OwnPc w B v l) (p : Pc)
    (g : Nat) (hg : Blk w g #[.int .i64 p.k, .int .i64 p.n, .string p.t] 79) (hx : a.eval x = .slice (some ⟨g, 0, none⟩) 1 1) (hl : l.length ≤ 1000000) (hB : B ≤ w.heap.size)
    (h : ∀ g1 c w1, OwnPc w1 B (.slice (some ⟨g1, 0, none⟩) (l.length + 1) c) (l ++ [p]) → Touch (fun j => v.ownBlock = some j) w w1 → (v.ownBlock = some g1 ∨ w.heap.size ≤ g1) → K (a.put o.dst (.slice (some ⟨g1, 0, none⟩) (l.length + 1) c)) w1) :
    if Region.wanted o (yielded ops a.tmps) = true then Oper.wp Tryz.prog o a w K Q else E := by
  obtain ⟨i0, hi, hz0, hz1, hz2⟩ := info_parts info_piece
  refine step_append_lies _ hgd s x 39 ho B 79 i0 _ 3 32 Tryz.underlying39 hi hz0 hz1 hz2 rfl (by decide) v l.length _ hs hown ⟨g, 0, none⟩ 1 1 [.int .i64 p.k, .int .i64 p.n, .string p.t] hx rfl ?c1 ?c2 (by decide) ?c3 ?c4 hB _ rfl ?_
  case c1 => exact World.news_of_block (cs := #[.int .i64 p.k, .int .i64 p.n, .string p.t]) (t := 79) (fr := (0, 0)) hg
  case c2 => intro u hu; simp at hu; rcases hu with rfl | rfl | rfl <;> rfl
  case c3 => unfold maxLen; omega
  case c4 => omega
  intro g1 c w1 hown1 hgr hat _
  refine h g1 c w1 ?_ ?_ ?_
  · show w1.ownsRow B 79 3 _ (l ++ [p]).length (pcFlat (l ++ [p]))
    rw [List.length_append, pcFlat_append]
    exact hown1
  · exact ⟨hgr.os, hgr.tape, hgr.output, hgr.size, fun k hk hne => hgr.block k hk (fun e => hne e.symm)⟩
  · rcases hat with h1 | h1
    · exact Or.inl h1
    · right; omega
/-- Where a decoder's parts lie. -/
structure BdV where
  gl : Nat
  vl : Value
  vn : Value
  vo : Value
  vp : Value
  va : Value
  vt : Value
def bRow (m : Lm) (s : BdS) (V : BdV) : Array Value :=
  #[.int .i64 m.head, .int .i64 m.fields, .int .i64 m.line, .int .i64 m.body, .int .i64 m.fold, V.vn, V.vo, .int .i64 s.left, V.vp, V.va, V.vt, .bool s.till, .bool s.over, .int .i64 s.e]
/-- mark's closure: boxes of the octet, the decoder, what follows. -/
def MarkAt (w : World) (D : Nat) (c : Int) (f : Value) (v : Value) : Prop := ∃ bc bd bt, v = .func (.func 74) #[] #[.pointer (some ⟨bc, 0, none⟩), .pointer (some ⟨bd, 0, none⟩), .pointer (some ⟨bt, 0, none⟩)] ∧
  Blk w bc #[.int .u8 c] 5 ∧ Blk w bd #[.pointer (some ⟨D, 0, none⟩)] 35 ∧ Blk w bt #[f] 20
def beginV (D : Nat) : Value := .func (.func 65) #[.pointer (some ⟨D, 0, none⟩)] #[]
def LfAt (w : World) (D : Nat) (v : Value) : Prop := MarkAt w D 10 (.iface 1 (beginV D)) v
/-- What comes next, in memory. -/
def NextAt (w : World) (D : Nat) (md : Md) (v : Value) : Prop :=
  match md with
  | .nothing => v = .func (.func 26) #[.pointer (some ⟨D, 0, none⟩)] #[]
  | .sized => v = .func (.func 28) #[.pointer (some ⟨D, 0, none⟩)] #[]
  | .rest => v = .func (.func 30) #[.pointer (some ⟨D, 0, none⟩)] #[]
  | .size => v = .func (.func 29) #[.pointer (some ⟨D, 0, none⟩)] #[]
  | .data => v = .func (.func 51) #[.pointer (some ⟨D, 0, none⟩)] #[]
  | .trailer => v = .func (.func 50) #[.pointer (some ⟨D, 0, none⟩)] #[]
  | .lf => LfAt w D v
  | .cr => ∃ lf, MarkAt w D 13 (.iface 70 lf) v ∧ LfAt w D lf
theorem MarkAt.touch {P : Nat → Prop} {w w1 : World} {D : Nat} {c : Int} {f v : Value} (h : MarkAt w D c f v) (t : Touch P w w1) {l : List TypeId} (hP : OfTy w P l) (h1 : 5 ∉ l) (h2 : 35 ∉ l) (h3 : 20 ∉ l) : MarkAt w1 D c f v := by
  obtain ⟨bc, bd, bt, hv, k1, k2, k3⟩ := h
  exact ⟨bc, bd, bt, hv, k1.touch t (hP.not k1 h1), k2.touch t (hP.not k2 h2), k3.touch t (hP.not k3 h3)⟩
theorem NextAt.touch {P : Nat → Prop} {w w1 : World} {D : Nat} {md : Md} {v : Value} (h : NextAt w D md v) (t : Touch P w w1) {l : List TypeId} (hP : OfTy w P l) (h1 : 5 ∉ l) (h2 : 35 ∉ l) (h3 : 20 ∉ l) : NextAt w1 D md v := by
  cases md
  case cr =>
    obtain ⟨lf, k1, k2⟩ := h
    exact ⟨lf, MarkAt.touch k1 t hP h1 h2 h3, MarkAt.touch k2 t hP h1 h2 h3⟩
  case lf => exact MarkAt.touch h t hP h1 h2 h3
  all_goals exact h
/-- Does what comes next read a line? -/
def Md.lined : Md → Bool
  | .size => true
  | .trailer => true
  | _ => false
/-- A decoder's line. -/
structure BdLn (w : World) (n0 : Nat) (s : BdS) (V : BdV) : Prop where
  p : V.vp = .pointer (some ⟨V.gl, 0, none⟩)
  n : n0 ≤ V.gl
  l : LnAt w V.gl (V.gl + 1) V.vl s.ln
/-- The blocks that a decoder writes. -/
def BdF (D : Nat) (V : BdV) (j : Nat) : Prop := j = D ∨ V.vo.ownBlock = some j ∨ V.va.ownBlock = some j ∨ j = V.gl ∨ V.vl.ownBlock = some j
/-- Does it stand before a line? -/
def BdS.lined (s : BdS) : Bool := s.opens && s.md.lined
/-- Some function. -/
def Fun (v : Value) : Prop := ∃ f a c, v = .func f a c
theorem NextAt.fun {w : World} {D : Nat} {md : Md} {v : Value} (h : NextAt w D md v) : Fun v := by
  cases md
  case cr =>
    obtain ⟨lf, ⟨_, _, _, k, _⟩, _⟩ := h
    exact ⟨_, _, _, k⟩
  case lf =>
    obtain ⟨_, _, _, k, _⟩ := h
    exact ⟨_, _, _, k⟩
  all_goals exact ⟨_, _, _, h⟩
/-- A decoder, but for its own block and what it tells. -/
structure BdRest (w : World) (D n0 : Nat) (s : BdS) (V : BdV) : Prop where
  a : OwnS w n0 V.va s.all
  t : OwnF w n0 V.vt s.tr
  n : s.opens = true → NextAt w D s.md V.vn
  l : s.lined = true → BdLn w n0 s V
  u : s.lined = false → V.gl = D ∧ V.vl = .slice none 0 0
  f : Fun V.vn
/-- A decoder in block D, all its own from n0 on. -/
structure BdAt (w : World) (D n0 : Nat) (m : Lm) (s : BdS) (V : BdV) : Prop where
  k : Blk w D (bRow m s V) 74
  d : n0 ≤ D
  o : OwnPc w n0 V.vo s.out
  r : BdRest w D n0 s V
/-- What a decoder writes on its way; what is its own behind it was its own, or is new. -/
structure BdGo (w w1 : World) (D : Nat) (V V1 : BdV) : Prop where
  t : Touch (BdF D V) w w1
  s : ∀ j, j < w.heap.size → BdF D V1 j → BdF D V j
theorem BdGo.refl (w : World) (D : Nat) (V : BdV) : BdGo w w D V V := ⟨Touch.refl _ _, fun _ _ h => h⟩
theorem BdGo.trans {w w1 w2 : World} {D : Nat} {V V1 V2 : BdV} (h : BdGo w w1 D V V1) (k : BdGo w1 w2 D V1 V2) : BdGo w w2 D V V2 :=
  ⟨touch_into h.t k.t h.s, fun j hj e => h.s j hj (k.s j (Nat.lt_of_lt_of_le hj h.t.size) e)⟩
theorem BdGo.of_below {w w1 : World} {D : Nat} {V : BdV} (hb : Below w.heap.size w w1) : BdGo w w1 D V V := ⟨Touch.of_below hb, fun _ _ h => h⟩
theorem BdLn.touch {P : Nat → Prop} {w w1 : World} {n0 : Nat} {s : BdS} {V : BdV} (h : BdLn w n0 s V) (t : Touch P w w1) {l : List TypeId} (hP : OfTy w P l) (h1 : 5 ∉ l) (h2 : 88 ∉ l) : BdLn w1 n0 s V :=
  ⟨h.p, h.n, h.l.touch t (hP.not h.l.b h2) (hP.own h.l.o h1)⟩
theorem BdRest.touch {P : Nat → Prop} {w w1 : World} {D n0 : Nat} {s : BdS} {V : BdV} (h : BdRest w D n0 s V) (t : Touch P w w1) (hP : OfTy w P [74, 79]) : BdRest w1 D n0 s V :=
  ⟨own_touch h.a t (hP.own h.a (by decide)), own_touch h.t t (hP.own h.t (by decide)), fun e => (h.n e).touch t hP (by decide) (by decide) (by decide), fun e => (h.l e).touch t hP (by decide) (by decide), h.u, h.f⟩
/-- Nothing of a decoder is written: a call of another. -/
theorem BdAt.call {w w1 : World} {D n0 : Nat} {m : Lm} {s : BdS} {V : BdV} (h : BdAt w D n0 m s V) (hb : Below w.heap.size w w1) : BdAt w1 D n0 m s V := by
  have t : Touch (fun _ => False) w w1 := Touch.of_below hb
  have hP : OfTy w (fun _ => False) [74, 79] := fun _ h => h.elim
  exact ⟨h.k.touch t id, h.d, own_touch h.o t (fun _ _ => id), h.r.touch t hP⟩
theorem BdAt.drew {w : World} {D n0 : Nat} {m : Lm} {s : BdS} {V : BdV} (h : BdAt w D n0 m s V) : BdAt w.drew D n0 m s V := h.call (Below.refl _ _).drew
theorem BdAt.alloc {w : World} {D n0 : Nat} {m : Lm} {s : BdS} {V : BdV} (h : BdAt w D n0 m s V) (o : Obj) : BdAt (w.alloc o) D n0 m s V := h.call ((Below.refl _ _).alloc (Nat.le_refl _) o)
theorem BdAt.size {w : World} {D n0 : Nat} {m : Lm} {s : BdS} {V : BdV} (h : BdAt w D n0 m s V) : n0 ≤ w.heap.size := Nat.le_trans h.d (Nat.le_of_lt h.k.lt)
/-- The types of the blocks that a decoder writes. -/
theorem BdAt.ty {w : World} {D n0 : Nat} {m : Lm} {s : BdS} {V : BdV} (h : BdAt w D n0 m s V) {j : Nat} (hj : BdF D V j) : n0 ≤ j ∧ ∃ cs t, Blk w j cs t ∧ (V.vo.ownBlock = some j ∨ t ≠ 79) ∧ t ∈ [74, 79, 9, 88, 5] := by
  have hD : n0 ≤ D ∧ ∃ cs t, Blk w D cs t ∧ (V.vo.ownBlock = some D ∨ t ≠ 79) ∧ t ∈ [74, 79, 9, 88, 5] := ⟨h.d, _, _, h.k, Or.inr (by decide), by decide⟩
  rcases hj with rfl | hj | hj | hj | hj
  · exact hD
  · obtain ⟨h1, cs, hb⟩ := own_ty h.o j hj
    exact ⟨h1, cs, _, hb, Or.inl hj, by decide⟩
  · obtain ⟨h1, cs, hb⟩ := own_ty h.r.a j hj
    exact ⟨h1, cs, _, hb, Or.inr (by decide), by decide⟩
  · cases hl : s.lined with
    | true => subst hj; exact ⟨(h.r.l hl).n, _, _, (h.r.l hl).l.b, Or.inr (by decide), by decide⟩
    | false => rw [hj, (h.r.u hl).1]; exact hD
  · cases hl : s.lined with
    | true =>
      obtain ⟨h1, cs, hb⟩ := own_ty (h.r.l hl).l.o j hj
      have := (h.r.l hl).n
      exact ⟨by omega, cs, _, hb, Or.inr (by decide), by decide⟩
    | false => rw [(h.r.u hl).2] at hj; cases hj
theorem BdAt.far {w : World} {D n0 : Nat} {m : Lm} {s : BdS} {V : BdV} (h : BdAt w D n0 m s V) {j : Nat} {cs : Array Value} {t : TypeId} (hb : Blk w j cs t) (ht : t ∉ [74, 79, 9, 88, 5]) : ¬ BdF D V j := fun hj => by
  obtain ⟨_, cs', t', hb', _, hm⟩ := h.ty hj
  exact hb.ne hb' (fun e => ht (e ▸ hm)) rfl
/-- Pieces that it told once are no more its own. -/
theorem BdAt.farPc {w : World} {D n0 : Nat} {m : Lm} {s : BdS} {V : BdV} (h : BdAt w D n0 m s V) {j : Nat} {cs : Array Value} (hb : Blk w j cs 79) (ht : V.vo.ownBlock ≠ some j) : ¬ BdF D V j := fun hj => by
  obtain ⟨_, cs', t', hb', hm, _⟩ := h.ty hj
  rcases hm with hm | hm
  · exact ht hm
  · exact hb.ne hb' (fun e => hm e.symm) rfl
theorem BdAt.below {w w1 : World} {D n0 : Nat} {m : Lm} {s : BdS} {V V1 : BdV} (h : BdAt w D n0 m s V) (g : BdGo w w1 D V V1) : Below n0 w w1 := g.t.below (fun _ _ hk => (h.ty hk).1) h.size
theorem BdAt.ofD {w : World} {D n0 : Nat} {m : Lm} {s : BdS} {V : BdV} (h : BdAt w D n0 m s V) : OfTy w (fun j => j = D) [74, 79] := fun j e => ⟨_, _, List.mem_cons_self, e ▸ h.k⟩
theorem touchD (w : World) (D i : Nat) (u : Value) : Touch (fun j => j = D) w (w.setCell ⟨D, i, none⟩ u) := (Touch.refl (fun j => j = D) w).setCell (p := ⟨D, i, none⟩) rfl u
/-- A cell of its own block is set: what doesn't hang on it stays. -/
theorem BdAt.set {w : World} {D n0 : Nat} {m : Lm} {s : BdS} {V : BdV} (h : BdAt w D n0 m s V) (i : Nat) (u : Value) {s' : BdS} {V' : BdV} (hr : bRow m s' V' = (bRow m s V).setIfInBounds i u) (ho : s'.out = s.out) (hvo : V'.vo = V.vo) (ha : s'.all = s.all) (hva : V'.va = V.va) (ht : s'.tr = s.tr) (hvt : V'.vt = V.vt)
    (hn : s'.opens = true → NextAt (w.setCell ⟨D, i, none⟩ u) D s'.md V'.vn) (hl : s'.lined = true → BdLn (w.setCell ⟨D, i, none⟩ u) n0 s' V') (hu : s'.lined = false → V'.gl = D ∧ V'.vl = .slice none 0 0) (hf : Fun V'.vn) : BdAt (w.setCell ⟨D, i, none⟩ u) D n0 m s' V' := by
  have T := touchD w D i u
  refine ⟨hr ▸ h.k.set i u, h.d, ?_, ⟨?_, ?_, hn, hl, hu, hf⟩⟩
  · rw [ho, hvo]; exact own_touch h.o T (fun k hk e => by obtain ⟨_, cs, hb⟩ := own_ty h.o k hk; exact h.k.ne hb (by decide) e.symm)
  · rw [ha, hva]; exact own_touch h.r.a T (h.ofD.own h.r.a (by decide))
  · rw [ht, hvt]; exact own_touch h.r.t T (h.ofD.own h.r.t (by decide))
/-- It is open no more. -/
def BdV.shut (V : BdV) (D : Nat) : BdV := { V with gl := D, vl := .slice none 0 0 }
theorem BdF.shut {D : Nat} {V : BdV} {j : Nat} (h : BdF D (V.shut D) j) : BdF D V j := by
  rcases h with h | h | h | h | h
  · exact Or.inl h
  · exact Or.inr (Or.inl h)
  · exact Or.inr (Or.inr (Or.inl h))
  · exact Or.inl h
  · cases h
end Go.Proofs.YtbglakhojbhfbaaGreatDoor
-- BdB
namespace Go.Proofs.YtbglakhojbhfbaaGreatDoor
open Go.RowKit
/-- What is told grows by a piece; the rest stays. -/
theorem BdRest.put {w w1 : World} {D n0 : Nat} {m : Lm} {s : BdS} {V : BdV} {p : Pc} (h : BdRest w D n0 s V) (hd : n0 ≤ D) {vo : Value} (k : Blk w1 D (bRow m (s.put p) { V with vo := vo }) 74) (o : OwnPc w1 n0 vo (s.out ++ [p]))
    {P : Nat → Prop} (t : Touch P w w1) (hP : OfTy w P [74, 79]) : BdAt w1 D n0 m (s.put p) { V with vo := vo } :=
  ⟨k, hd, o, ⟨(h.touch t hP).a, (h.touch t hP).t, (h.touch t hP).n, fun e => ⟨((h.touch t hP).l e).p, ((h.touch t hP).l e).n, ((h.touch t hP).l e).l⟩, (h.touch t hP).u, h.f⟩⟩
set_option maxRecDepth 100000 in
set_option maxHeartbeats 4000000 in
theorem bput_any {w : World} {D n0 : Nat} {m : Lm} {s : BdS} {V : BdV} (h : BdAt w D n0 m s V) (hl : s.out.length ≤ 1000000) (p : Pc) :
    Calls Tryz.prog 31 #[.pointer (some ⟨D, 0, none⟩), .agg #[.int .i64 p.k, .int .i64 p.n, .string p.t]] w fun e w' => e = .returned (.tuple #[]) ∧ ∃ vo, BdAt w' D n0 m (s.put p) { V with vo := vo } ∧ BdGo w w' D V { V with vo := vo } := by
  obtain ⟨vo, hvo⟩ : ∃ x, x = V.vo := ⟨_, rfl⟩
  have H := Lib.hid h
  have HL := Lib.hid hl
  have HV := Lib.hid hvo
  have hD := h.k.lt
  clear h hl hvo
  obtain ⟨pk, pn, pt⟩ := p
  go_enter Tryz.func31, Tryz.ntmps31
  go_wp2_with fail
  refine wp_region_at (S := fun W => Blk W w.heap.size #[.int .i64 pk, .int .i64 pn, .string pt] 79) (by kernel_rfl) ?_
  intro V0 hV0
  have h0 : Blk V0 w.heap.size #[.int .i64 pk, .int .i64 pn, .string pt] 79 := by
    subst hV0
    exact (Blk.new _ _ _).drew
  have HA := Lib.hid (show BdAt V0 D n0 m s V by subst hV0; exact (H.out.alloc _).drew)
  have HB0 := Lib.hid (show Below w.heap.size w V0 by subst hV0; exact ((Below.refl _ _).alloc (Nat.le_refl _) _).drew)
  clear hV0
  refine wpAnyH_take (i := 0) (v := .pointer (some ⟨D, 0, none⟩)) rfl (by kernel_rfl) (by kernel_rfl) (by kernel_rfl) (fun _ _ _ h => h) (Or.inl ⟨by kernel_rfl, ?hy0⟩) h0 ?rest0
  case hy0 =>
    intro v hv
    clear hv
    go_simp
  (try simp only [Act.put, List.setIfInBounds_toArray, List.set_cons_zero, List.set_cons_succ])
  refine wpAnyH_take (i := 1) (v := .pointer (some ⟨D, 0, none⟩)) rfl (by kernel_rfl) (by kernel_rfl) (by kernel_rfl) (fun _ _ _ h => h) (Or.inl ⟨by kernel_rfl, ?hy1⟩) h0 ?rest1
  case hy1 =>
    intro v hv
    clear hv
    go_simp
  (try simp only [Act.put, List.setIfInBounds_toArray, List.set_cons_zero, List.set_cons_succ])
  refine wpAnyH_take (i := 2) (v := .pointer (some ⟨D, 0, none⟩)) rfl (by kernel_rfl) (by kernel_rfl) (by kernel_rfl) (fun _ _ _ h => h) (Or.inl ⟨by kernel_rfl, ?hy2⟩) h0 ?rest2
  case hy2 =>
    intro v hv
    clear hv
    go_simp
  (try simp only [Act.put, List.setIfInBounds_toArray, List.set_cons_zero, List.set_cons_succ])
  refine wpAnyH_take (i := 3) (v := .pointer (some ⟨D, 6, none⟩)) rfl (by kernel_rfl) (by kernel_rfl) (by kernel_rfl) (fun _ _ _ h => h) (Or.inl ⟨by kernel_rfl, ?hy3⟩) h0 ?rest3
  case hy3 =>
    intro v hv
    clear hv
    go_simp
  (try simp only [Act.put, List.setIfInBounds_toArray, List.set_cons_zero, List.set_cons_succ])
  refine wpAnyH_take (i := 5) (v := .agg #[.int .i64 pk, .int .i64 pn, .string pt]) rfl (by kernel_rfl) (by kernel_rfl) (by kernel_rfl) (fun _ _ _ h => h) (Or.inl ⟨by kernel_rfl, ?hy5⟩) h0 ?rest5
  case hy5 =>
    intro v hv
    have q0 : v.cell? ⟨w.heap.size, 0, none⟩ = some (.int .i64 pk) := hv.cell 0
    have q1 : v.cell? ⟨w.heap.size, 1, none⟩ = some (.int .i64 pn) := hv.cell 1
    have q2 : v.cell? ⟨w.heap.size, 2, none⟩ = some (.string pt) := hv.cell 2
    clear hv
    go_simp
  (try simp only [Act.put, List.setIfInBounds_toArray, List.set_cons_zero, List.set_cons_succ])
  refine wpAnyH_ready (rs := [4, 6]) (by kernel_rfl) (by simp) ?_
  refine AllReadyH.cons rfl (fun K hK => ?_) (AllReadyH.cons rfl (fun K hK => ?_) AllReadyH.nil)
  · have q : V0.cell? ⟨D, 6, none⟩ = some vo := by rw [HV.out]; exact HA.out.k.cell 6
    go_simp
    clear q
    refine hK _ _ h0 (fun _ => ?_)
    clear hK K
    (try simp only [Act.put, List.setIfInBounds_toArray, List.set_cons_zero, List.set_cons_succ])
    refine wpAnyH_ready (rs := [6]) (by kernel_rfl) (by simp) ?_
    refine AllReadyH.cons rfl (fun K hK => ?_) AllReadyH.nil
    go_simp
    have h1 : Blk (V0.alloc (.cells #[.int .i64 pk, .int .i64 pn, .string pt] 79)) w.heap.size #[.int .i64 pk, .int .i64 pn, .string pt] 79 := h0.alloc _
    have HN := Lib.hid (Blk.new V0 #[.int .i64 pk, .int .i64 pn, .string pt] 79)
    have HB1 := Lib.hid (HB0.out.alloc HB0.out.size (.cells #[.int .i64 pk, .int .i64 pn, .string pt] 79))
    have HA1 := Lib.hid (HA.out.alloc (.cells #[.int .i64 pk, .int .i64 pn, .string pt] 79))
    refine hK _ _ h1 (fun _ => ?_)
    clear hK K h0
    (try simp only [Act.put, List.setIfInBounds_toArray, List.set_cons_zero, List.set_cons_succ])
    generalize hb : V0.heap.size = b1 at HN ⊢
    generalize V0.alloc (.cells #[.int .i64 pk, .int .i64 pn, .string pt] 79) = V1 at HN HB1 HA1 h1 ⊢
    clear hb HB0 HA
    refine wpAnyH_ready (rs := [7]) (by kernel_rfl) (by simp) ?_
    refine AllReadyH.cons rfl (fun K hK => ?_) AllReadyH.nil
    refine step_push_pc rfl _ _ rfl rfl (show OwnPc V1 n0 vo s.out by rw [HV.out]; exact HA1.out.o) ⟨pk, pn, pt⟩ b1 HN.out rfl HL.out HA1.out.size ?_
    intro g1 c1 V2 ho2 ht2 hg2
    have hty : OfTy V1 (fun j => vo.ownBlock = some j) [74, 79] := fun j hj => by
      obtain ⟨_, cs, hb⟩ := own_ty (show OwnPc V1 n0 vo s.out by rw [HV.out]; exact HA1.out.o) j hj
      exact ⟨cs, _, List.mem_cons_of_mem _ List.mem_cons_self, hb⟩
    have hlo : ∀ j, vo.ownBlock = some j → n0 ≤ j ∧ j < w.heap.size := fun j hj => by
      obtain ⟨h1, cs, hb⟩ := own_ty (show OwnPc w n0 vo s.out by rw [HV.out]; exact H.out.o) j hj
      exact ⟨h1, hb.lt⟩
    have hnD : vo.ownBlock ≠ some D := fun e => by
      obtain ⟨_, cs, hb⟩ := own_ty (show OwnPc V1 n0 vo s.out by rw [HV.out]; exact HA1.out.o) D e
      exact HA1.out.k.ne hb (by decide) rfl
    have hgD : g1 ≠ D := fun e => by
      rcases hg2 with h | h
      · exact hnD (e ▸ h)
      · have := HA1.out.k.lt; omega
    have k2 : Blk V2 D (bRow m s V) 74 := HA1.out.k.touch ht2 hnD
    have h2 : Blk V2 w.heap.size #[.int .i64 pk, .int .i64 pn, .string pt] 79 := h1.touch ht2 (fun e => by have := (hlo _ e).2; omega)
    have K2 := Lib.hid k2
    have R2 := Lib.hid (HA1.out.r.touch ht2 hty)
    have HO2 := Lib.hid ho2
    have HB2 := Lib.hid (show Touch (BdF D V) w V2 from touch_into (Touch.of_below HB1.out) (ht2.mono (Q := BdF D V) (fun k _ hk => Or.inr (Or.inl (by rw [← HV.out]; exact hk)))) (fun _ _ h => h))
    have HQ2 := Lib.hid (show ∀ j, j < w.heap.size → j = g1 → BdF D V j from fun j hj e => by
      rcases hg2 with h | h
      · exact Or.inr (Or.inl (by rw [← HV.out, e]; exact h))
      · have := HB1.out.size; omega)
    have HG2 := Lib.hid hgD
    clear ho2 ht2 hg2 hty hlo hnD hgD k2 h1 HN HB1 HA1
    refine hK _ _ h2 (fun _ => ?_)
    clear hK K
    (try simp only [Act.put, List.setIfInBounds_toArray, List.set_cons_zero, List.set_cons_succ])
    refine wpAnyH_take (i := 8) (v := .pointer (some ⟨D, 0, none⟩)) rfl (by kernel_rfl) (by kernel_rfl) (by kernel_rfl) (fun _ _ _ h => h) (Or.inl ⟨by kernel_rfl, ?hy8⟩) h2 ?rest8
    case hy8 =>
      intro v hv
      clear hv
      go_simp
    (try simp only [Act.put, List.setIfInBounds_toArray, List.set_cons_zero, List.set_cons_succ])
    refine wpAnyH_take (i := 9) (v := .pointer (some ⟨D, 6, none⟩)) rfl (by kernel_rfl) (by kernel_rfl) (by kernel_rfl) (fun _ _ _ h => h) (Or.inl ⟨by kernel_rfl, ?hy9⟩) h2 ?rest9
    case hy9 =>
      intro v hv
      clear hv
      go_simp
    (try simp only [Act.put, List.setIfInBounds_toArray, List.set_cons_zero, List.set_cons_succ])
    refine wpAnyH_ready (rs := [10]) (by kernel_rfl) (by simp) ?_
    refine AllReadyH.cons rfl (fun K hK => ?_) AllReadyH.nil
    have z : V2.frozen? ⟨D, 6, none⟩ = false := K2.out.froz 6
    have y : V2.cell? ⟨D, 6, none⟩ = some vo := by rw [HV.out]; exact K2.out.cell 6
    go_simp
    clear y z
    have h3 : Blk (V2.setCell ⟨D, 6, none⟩ (.slice (some ⟨g1, 0, none⟩) (s.out.length + 1) c1)) w.heap.size #[.int .i64 pk, .int .i64 pn, .string pt] 79 := h2.far (by show w.heap.size ≠ D; omega) _
    refine hK _ _ h3 (fun _ => ?_)
    clear hK K h2 h3
    (try simp only [Act.put, List.setIfInBounds_toArray, List.set_cons_zero, List.set_cons_succ])
    refine wpAnyH_done (by kernel_rfl) ?_ _
    go_end0
    have T3 : Touch (fun j => j = D) V2 (V2.setCell ⟨D, 6, none⟩ (.slice (some ⟨g1, 0, none⟩) (s.out.length + 1) c1)) := (Touch.refl (fun j => j = D) V2).setCell (p := ⟨D, 6, none⟩) rfl _
    have hk3 : Blk (V2.setCell ⟨D, 6, none⟩ (.slice (some ⟨g1, 0, none⟩) (s.out.length + 1) c1)) D (bRow m (s.put ⟨pk, pn, pt⟩) { V with vo := .slice (some ⟨g1, 0, none⟩) (s.out.length + 1) c1 }) 74 := K2.out.set 6 _
    refine ⟨rfl, _, R2.out.put H.out.d hk3 ?_ T3 (fun j e => ⟨_, _, List.mem_cons_self, e ▸ K2.out⟩), ⟨touch_into HB2.out (T3.mono (Q := BdF D V) (fun k _ hk => Or.inl hk)) (fun _ _ h => h), fun j hj e => ?_⟩⟩
    · exact own_touch HO2.out T3 (fun k hk e => HG2.out (by cases hk; exact e))
    · rcases e with e | e | e | e | e
      · exact Or.inl e
      · exact HQ2.out j hj (by cases e; rfl)
      · exact Or.inr (Or.inr (Or.inl e))
      · exact Or.inr (Or.inr (Or.inr (Or.inl e)))
      · exact Or.inr (Or.inr (Or.inr (Or.inr e)))
  · go_simp
    have h1 : Blk (V0.alloc (.cells #[.int .i64 pk, .int .i64 pn, .string pt] 79)) w.heap.size #[.int .i64 pk, .int .i64 pn, .string pt] 79 := h0.alloc _
    have HN := Lib.hid (Blk.new V0 #[.int .i64 pk, .int .i64 pn, .string pt] 79)
    have HB1 := Lib.hid (HB0.out.alloc HB0.out.size (.cells #[.int .i64 pk, .int .i64 pn, .string pt] 79))
    have HA1 := Lib.hid (HA.out.alloc (.cells #[.int .i64 pk, .int .i64 pn, .string pt] 79))
    refine hK _ _ h1 (fun _ => ?_)
    clear hK K h0
    (try simp only [Act.put, List.setIfInBounds_toArray, List.set_cons_zero, List.set_cons_succ])
    refine wpAnyH_ready (rs := [4]) (by kernel_rfl) (by simp) ?_
    refine AllReadyH.cons rfl (fun K hK => ?_) AllReadyH.nil
    have q : (V0.alloc (.cells #[.int .i64 pk, .int .i64 pn, .string pt] 79)).cell? ⟨D, 6, none⟩ = some vo := by rw [HV.out]; exact HA1.out.k.cell 6
    go_simp
    clear q
    refine hK _ _ h1 (fun _ => ?_)
    clear hK K
    (try simp only [Act.put, List.setIfInBounds_toArray, List.set_cons_zero, List.set_cons_succ])
    generalize hb : V0.heap.size = b1 at HN ⊢
    generalize V0.alloc (.cells #[.int .i64 pk, .int .i64 pn, .string pt] 79) = V1 at HN HB1 HA1 h1 ⊢
    clear hb HB0 HA
    refine wpAnyH_ready (rs := [7]) (by kernel_rfl) (by simp) ?_
    refine AllReadyH.cons rfl (fun K hK => ?_) AllReadyH.nil
    refine step_push_pc rfl _ _ rfl rfl (show OwnPc V1 n0 vo s.out by rw [HV.out]; exact HA1.out.o) ⟨pk, pn, pt⟩ b1 HN.out rfl HL.out HA1.out.size ?_
    intro g1 c1 V2 ho2 ht2 hg2
    have hty : OfTy V1 (fun j => vo.ownBlock = some j) [74, 79] := fun j hj => by
      obtain ⟨_, cs, hb⟩ := own_ty (show OwnPc V1 n0 vo s.out by rw [HV.out]; exact HA1.out.o) j hj
      exact ⟨cs, _, List.mem_cons_of_mem _ List.mem_cons_self, hb⟩
    have hlo : ∀ j, vo.ownBlock = some j → n0 ≤ j ∧ j < w.heap.size := fun j hj => by
      obtain ⟨h1, cs, hb⟩ := own_ty (show OwnPc w n0 vo s.out by rw [HV.out]; exact H.out.o) j hj
      exact ⟨h1, hb.lt⟩
    have hnD : vo.ownBlock ≠ some D := fun e => by
      obtain ⟨_, cs, hb⟩ := own_ty (show OwnPc V1 n0 vo s.out by rw [HV.out]; exact HA1.out.o) D e
      exact HA1.out.k.ne hb (by decide) rfl
    have hgD : g1 ≠ D := fun e => by
      rcases hg2 with h | h
      · exact hnD (e ▸ h)
      · have := HA1.out.k.lt; omega
    have k2 : Blk V2 D (bRow m s V) 74 := HA1.out.k.touch ht2 hnD
    have h2 : Blk V2 w.heap.size #[.int .i64 pk, .int .i64 pn, .string pt] 79 := h1.touch ht2 (fun e => by have := (hlo _ e).2; omega)
    have K2 := Lib.hid k2
    have R2 := Lib.hid (HA1.out.r.touch ht2 hty)
    have HO2 := Lib.hid ho2
    have HB2 := Lib.hid (show Touch (BdF D V) w V2 from touch_into (Touch.of_below HB1.out) (ht2.mono (Q := BdF D V) (fun k _ hk => Or.inr (Or.inl (by rw [← HV.out]; exact hk)))) (fun _ _ h => h))
    have HQ2 := Lib.hid (show ∀ j, j < w.heap.size → j = g1 → BdF D V j from fun j hj e => by
      rcases hg2 with h | h
      · exact Or.inr (Or.inl (by rw [← HV.out, e]; exact h))
      · have := HB1.out.size; omega)
    have HG2 := Lib.hid hgD
    clear ho2 ht2 hg2 hty hlo hnD hgD k2 h1 HN HB1 HA1
    refine hK _ _ h2 (fun _ => ?_)
    clear hK K
    (try simp only [Act.put, List.setIfInBounds_toArray, List.set_cons_zero, List.set_cons_succ])
    refine wpAnyH_take (i := 8) (v := .pointer (some ⟨D, 0, none⟩)) rfl (by kernel_rfl) (by kernel_rfl) (by kernel_rfl) (fun _ _ _ h => h) (Or.inl ⟨by kernel_rfl, ?hy8b⟩) h2 ?rest8b
    case hy8b =>
      intro v hv
      clear hv
      go_simp
    (try simp only [Act.put, List.setIfInBounds_toArray, List.set_cons_zero, List.set_cons_succ])
    refine wpAnyH_take (i := 9) (v := .pointer (some ⟨D, 6, none⟩)) rfl (by kernel_rfl) (by kernel_rfl) (by kernel_rfl) (fun _ _ _ h => h) (Or.inl ⟨by kernel_rfl, ?hy9b⟩) h2 ?rest9b
    case hy9b =>
      intro v hv
      clear hv
      go_simp
    (try simp only [Act.put, List.setIfInBounds_toArray, List.set_cons_zero, List.set_cons_succ])
    refine wpAnyH_ready (rs := [10]) (by kernel_rfl) (by simp) ?_
    refine AllReadyH.cons rfl (fun K hK => ?_) AllReadyH.nil
    have z : V2.frozen? ⟨D, 6, none⟩ = false := K2.out.froz 6
    have y : V2.cell? ⟨D, 6, none⟩ = some vo := by rw [HV.out]; exact K2.out.cell 6
    go_simp
    clear y z
    have h3 : Blk (V2.setCell ⟨D, 6, none⟩ (.slice (some ⟨g1, 0, none⟩) (s.out.length + 1) c1)) w.heap.size #[.int .i64 pk, .int .i64 pn, .string pt] 79 := h2.far (by show w.heap.size ≠ D; omega) _
    refine hK _ _ h3 (fun _ => ?_)
    clear hK K h2 h3
    (try simp only [Act.put, List.setIfInBounds_toArray, List.set_cons_zero, List.set_cons_succ])
    refine wpAnyH_done (by kernel_rfl) ?_ _
    go_end0
    have T3 : Touch (fun j => j = D) V2 (V2.setCell ⟨D, 6, none⟩ (.slice (some ⟨g1, 0, none⟩) (s.out.length + 1) c1)) := (Touch.refl (fun j => j = D) V2).setCell (p := ⟨D, 6, none⟩) rfl _
    have hk3 : Blk (V2.setCell ⟨D, 6, none⟩ (.slice (some ⟨g1, 0, none⟩) (s.out.length + 1) c1)) D (bRow m (s.put ⟨pk, pn, pt⟩) { V with vo := .slice (some ⟨g1, 0, none⟩) (s.out.length + 1) c1 }) 74 := K2.out.set 6 _
    refine ⟨rfl, _, R2.out.put H.out.d hk3 ?_ T3 (fun j e => ⟨_, _, List.mem_cons_self, e ▸ K2.out⟩), ⟨touch_into HB2.out (T3.mono (Q := BdF D V) (fun k _ hk => Or.inl hk)) (fun _ _ h => h), fun j hj e => ?_⟩⟩
    · exact own_touch HO2.out T3 (fun k hk e => HG2.out (by cases hk; exact e))
    · rcases e with e | e | e | e | e
      · exact Or.inl e
      · exact HQ2.out j hj (by cases e; rfl)
      · exact Or.inr (Or.inr (Or.inl e))
      · exact Or.inr (Or.inr (Or.inr (Or.inl e)))
      · exact Or.inr (Or.inr (Or.inr (Or.inr e)))
end Go.Proofs.YtbglakhojbhfbaaGreatDoor
-- BdC
namespace Go.Proofs.YtbglakhojbhfbaaGreatDoor
open Go.RowKit
theorem BdAt.shut {w : World} {D n0 : Nat} {m : Lm} {s : BdS} {V : BdV} (h : BdAt w D n0 m s V) (i : Nat) (u : Value) {s' : BdS} (hr : bRow m s' (V.shut D) = (bRow m s V).setIfInBounds i u) (ho : s'.out = s.out) (ha : s'.all = s.all) (ht : s'.tr = s.tr) (hs : s'.opens = false) : BdAt (w.setCell ⟨D, i, none⟩ u) D n0 m s' (V.shut D) :=
  h.set i u hr ho rfl ha rfl ht rfl (fun e => by rw [hs] at e; cases e) (fun e => by unfold BdS.lined at e; rw [hs] at e; cases e) (fun _ => ⟨rfl, rfl⟩) h.r.f
theorem BdGo.shut (w : World) (D i : Nat) (u : Value) (V : BdV) : BdGo w (w.setCell ⟨D, i, none⟩ u) D V (V.shut D) := ⟨(touchD w D i u).mono (fun _ _ e => Or.inl e), fun _ _ e => e.shut⟩
theorem BdGo.shut2 (w : World) (D i : Nat) (u : Value) (V : BdV) : BdGo w (w.setCell ⟨D, i, none⟩ u) D (V.shut D) (V.shut D) := ⟨(touchD w D i u).mono (fun _ _ e => Or.inl e), fun _ _ e => e⟩
theorem BdGo.unshut {w w1 : World} {D : Nat} {V V1 : BdV} (h : BdGo w w1 D (V.shut D) V1) : BdGo w w1 D V V1 := ⟨h.t.mono (fun _ _ e => e.shut), fun j hj e => (h.s j hj e).shut⟩
set_option maxRecDepth 100000 in
theorem bwrong_fine {w : World} {D n0 : Nat} {m : Lm} {s : BdS} {V : BdV} (h : BdAt w D n0 m s V) (hl : s.out.length ≤ 1000000) (e : Int) (he : e ≠ 0) :
    Calls Tryz.prog 35 #[.pointer (some ⟨D, 0, none⟩), .int .i64 e] w fun x w' => x = .returned (.tuple #[]) ∧ ∃ vo, BdAt w' D n0 m (s.wrong e) { V.shut D with vo := vo } ∧ BdGo w w' D (V.shut D) { V.shut D with vo := vo } := by
  have z : w.frozen? ⟨D, 13, none⟩ = false := h.k.froz 13
  have y : w.cell? ⟨D, 13, none⟩ = some (.int .i64 s.e) := h.k.cell 13
  have h1 : BdAt (w.setCell ⟨D, 13, none⟩ (.int .i64 e)) D n0 m { s with e := e } (V.shut D) := h.shut 13 _ rfl rfl rfl rfl (by unfold BdS.opens; simp [he])
  have HC := Lib.hid (bput_any h1 hl ⟨5, e, ⟨#[]⟩⟩)
  have HG := Lib.hid (BdGo.shut2 w D 13 (.int .i64 e) V)
  clear h h1 hl
  go_enter Tryz.func35, Tryz.ntmps35
  go_wp2_with (go_at_call 31; refine HC.out.mono ?_; rintro e1 w1 ⟨rfl, vo, h1, g1⟩; have H1 := Lib.hid h1; have G1 := Lib.hid g1; clear h1 g1)
  go_end0
  exact ⟨rfl, vo, H1.out, HG.out.trans G1.out⟩
theorem bwrong_any {w : World} {D n0 : Nat} {m : Lm} {s : BdS} {V : BdV} (h : BdAt w D n0 m s V) (hl : s.out.length ≤ 1000000) (e : Int) (he : e ≠ 0) :
    Calls Tryz.prog 35 #[.pointer (some ⟨D, 0, none⟩), .int .i64 e] w fun x w' => x = .returned (.tuple #[]) ∧ ∃ vo, BdAt w' D n0 m (s.wrong e) { V.shut D with vo := vo } ∧ BdGo w w' D V { V.shut D with vo := vo } :=
  (bwrong_fine h hl e he).mono fun _ _ ⟨h1, vo, h2, h3⟩ => ⟨h1, vo, h2, h3.unshut⟩
set_option maxRecDepth 100000 in
theorem bends_any {w : World} {D n0 : Nat} {m : Lm} {s : BdS} {V : BdV} (h : BdAt w D n0 m s V) (hl : s.out.length ≤ 1000000) :
    Calls Tryz.prog 34 #[.pointer (some ⟨D, 0, none⟩)] w fun x w' => x = .returned (.tuple #[]) ∧ ∃ vo, BdAt w' D n0 m s.ends { V.shut D with vo := vo } ∧ BdGo w w' D V { V.shut D with vo := vo } := by
  have z : w.frozen? ⟨D, 12, none⟩ = false := h.k.froz 12
  have y : w.cell? ⟨D, 12, none⟩ = some (.bool s.over) := h.k.cell 12
  have h1 : BdAt (w.setCell ⟨D, 12, none⟩ (.bool true)) D n0 m { s with over := true } (V.shut D) := h.shut 12 _ rfl rfl rfl rfl rfl
  have HC := Lib.hid (bput_any h1 hl ⟨4, 0, ⟨#[]⟩⟩)
  have HG := Lib.hid (BdGo.shut w D 12 (.bool true) V)
  clear h h1 hl
  go_enter Tryz.func34, Tryz.ntmps34
  go_wp2_with (go_at_call 31; refine HC.out.mono ?_; rintro e1 w1 ⟨rfl, vo, h1, g1⟩; have H1 := Lib.hid h1; have G1 := Lib.hid g1; clear h1 g1)
  go_end0
  exact ⟨rfl, vo, H1.out, HG.out.trans G1.out⟩
set_option maxRecDepth 100000 in
theorem bopen_nil (w : World) : Calls Tryz.prog 32 #[.pointer none] w fun x w' => x = .returned (.bool false) ∧ w = w' := by
  go_enter Tryz.func32, Tryz.ntmps32
  go_wp2_with fail
  go_ret
  exact ⟨rfl, rfl⟩
set_option maxRecDepth 100000 in
theorem btold_nil (w : World) : Calls Tryz.prog 33 #[.pointer none] w fun x w' => x = .returned (.slice none 0 0) ∧ w = w' := by
  go_enter Tryz.func33, Tryz.ntmps33
  go_wp2_with fail
  go_ret
  exact ⟨rfl, rfl⟩
set_option maxRecDepth 100000 in
theorem bdone_nil (w : World) : Calls Tryz.prog 36 #[.pointer none] w fun x w' => x = .returned (.bool false) ∧ w = w' := by
  go_enter Tryz.func36, Tryz.ntmps36
  go_wp2_with fail
  go_ret
  exact ⟨rfl, rfl⟩
set_option maxRecDepth 100000 in
theorem bdone_any {w : World} {D : Nat} {m : Lm} {s : BdS} {V : BdV} (h : Blk w D (bRow m s V) 74) : Calls Tryz.prog 36 #[.pointer (some ⟨D, 0, none⟩)] w fun x w' => x = .returned (.bool s.over) ∧ w = w' := by
  have y : w.cell? ⟨D, 12, none⟩ = some (.bool s.over) := h.cell 12
  clear h
  go_enter Tryz.func36, Tryz.ntmps36
  go_wp2_with fail
  go_ret
  exact ⟨rfl, rfl⟩
set_option maxRecDepth 100000 in
theorem btold_any {w : World} {D n0 : Nat} {m : Lm} {s : BdS} {V : BdV} (h : BdAt w D n0 m s V) :
    Calls Tryz.prog 33 #[.pointer (some ⟨D, 0, none⟩)] w fun x w' => x = .returned V.vo ∧ BdAt w' D n0 m (bTold s) { V with vo := .slice none 0 0 } ∧ OwnPc w' n0 V.vo s.out ∧ BdGo w w' D V { V with vo := .slice none 0 0 } := by
  obtain ⟨vo, hvo⟩ : ∃ x, x = V.vo := ⟨_, rfl⟩
  rw [← hvo]
  have z : w.frozen? ⟨D, 6, none⟩ = false := h.k.froz 6
  have y : w.cell? ⟨D, 6, none⟩ = some vo := by rw [hvo]; exact h.k.cell 6
  have H := Lib.hid h
  have HV := Lib.hid hvo
  clear h hvo
  go_enter Tryz.func33, Tryz.ntmps33
  go_wp2_with fail
  go_ret
  have T := touchD w D 6 (.slice none 0 0)
  refine ⟨rfl, ⟨H.out.k.set 6 _, H.out.d, OwnPc.start _ _, ?_⟩, ?_, ⟨T.mono (fun _ _ e => Or.inl e), fun j _ e => ?_⟩⟩
  · have r := H.out.r.touch T H.out.ofD
    exact ⟨r.a, r.t, r.n, fun e => ⟨(r.l e).p, (r.l e).n, (r.l e).l⟩, r.u, r.f⟩
  · rw [HV.out]
    exact own_touch H.out.o T (fun k hk e => by obtain ⟨_, cs, hb⟩ := own_ty H.out.o k hk; exact H.out.k.ne hb (by decide) e.symm)
  · rcases e with e | e | e | e | e
    · exact Or.inl e
    · cases e
    · exact Or.inr (Or.inr (Or.inl e))
    · exact Or.inr (Or.inr (Or.inr (Or.inl e)))
    · exact Or.inr (Or.inr (Or.inr (Or.inr e)))
end Go.Proofs.YtbglakhojbhfbaaGreatDoor
-- BdD
namespace Go.Proofs.YtbglakhojbhfbaaGreatDoor
open Go.RowKit
set_option maxRecDepth 100000 in
theorem bopen_any {w : World} {D n0 : Nat} {m : Lm} {s : BdS} {V : BdV} (h : BdAt w D n0 m s V) : Calls Tryz.prog 32 #[.pointer (some ⟨D, 0, none⟩)] w fun x w' => x = .returned (.bool s.opens) ∧ w = w' := by
  obtain ⟨f, a, c, hf⟩ := h.r.f
  have y5 : w.cell? ⟨D, 5, none⟩ = some (.func f a c) := by rw [← hf]; exact h.k.cell 5
  have y12 : w.cell? ⟨D, 12, none⟩ = some (.bool s.over) := h.k.cell 12
  have y13 : w.cell? ⟨D, 13, none⟩ = some (.int .i64 s.e) := h.k.cell 13
  have hbn : ∀ W : World, (binOp .neq 70 (.func f a c) .nilFunc).run Tryz.prog W = .ok (.bool true) W := fun _ => rfl
  unfold BdS.opens
  clear h hf
  cases ho : s.over with
  | true =>
    rw [ho] at y12
    go_enter Tryz.func32, Tryz.ntmps32
    go_wp2_with fail
    go_ret
    exact ⟨rfl, rfl⟩
  | false =>
    rw [ho] at y12
    cases he : (s.e == 0) with
    | true =>
      go_enter Tryz.func32, Tryz.ntmps32
      go_wp2_with fail
      go_ret
      exact ⟨rfl, rfl⟩
    | false =>
      go_enter Tryz.func32, Tryz.ntmps32
      go_wp2_with fail
      go_ret
      exact ⟨rfl, rfl⟩
set_option maxRecDepth 100000 in
theorem bnothing_any (D : Nat) (x : ByteArray) (w : World) : Calls Tryz.prog 26 #[.pointer (some ⟨D, 0, none⟩), .string x] w fun e w' => e = .returned (.int .i64 0) ∧ w = w' := by
  go_enter Tryz.func26, Tryz.ntmps26
  go_wp2_with fail
  go_ret
  exact ⟨rfl, rfl⟩
set_option maxRecDepth 100000 in
theorem brest_any {w : World} {D n0 : Nat} {m : Lm} {s : BdS} {V : BdV} (h : BdAt w D n0 m s V) (hl : s.out.length ≤ 1000000) (x : ByteArray) (hx : x.size ≤ 1000000) :
    Calls Tryz.prog 30 #[.pointer (some ⟨D, 0, none⟩), .string x] w fun e w' => e = .returned (.int .i64 x.size) ∧ ∃ vo, BdAt w' D n0 m (s.rest x.data.toList) { V with vo := vo } ∧ BdGo w w' D V { V with vo := vo } := by
  have HC := Lib.hid (bput_any h hl ⟨3, 0, x⟩)
  clear h hl
  go_enter Tryz.func30, Tryz.ntmps30
  go_wp2_with (go_at_call 31; refine HC.out.mono ?_; rintro e1 w1 ⟨rfl, vo, h1, g1⟩; have H1 := Lib.hid h1; have G1 := Lib.hid g1; clear h1 g1)
  go_ret
  exact ⟨rfl, vo, H1.out, G1.out⟩
set_option maxRecDepth 100000 in
theorem bsome_any {w : World} {D n0 : Nat} {m : Lm} {s : BdS} {V : BdV} (h : BdAt w D n0 m s V) (hl : s.out.length ≤ 1000000) (x : ByteArray) (hx : x.size ≤ 1000000) (h0 : 0 ≤ s.left) (h1 : s.left ≤ 9223372036854775807) :
    Calls Tryz.prog 46 #[.pointer (some ⟨D, 0, none⟩), .string x] w fun e w' => e = .returned (.int .i64 (s.some x.data.toList).2) ∧ ∃ vo, BdAt w' D n0 m (s.some x.data.toList).1 { V with vo := vo } ∧ BdGo w w' D V { V with vo := vo } := by
  obtain ⟨n, hn⟩ : ∃ n : Nat, (n : Int) = min (x.size : Int) s.left := ⟨(min (x.size : Int) s.left).toNat, by omega⟩
  have hnx : n ≤ x.size := by omega
  have z : w.frozen? ⟨D, 7, none⟩ = false := h.k.froz 7
  have y : w.cell? ⟨D, 7, none⟩ = some (.int .i64 s.left) := h.k.cell 7
  have k1 : BdAt (w.setCell ⟨D, 7, none⟩ (.int .i64 (s.left - n))) D n0 m { s with left := s.left - n } V :=
    h.set 7 _ rfl rfl rfl rfl rfl rfl rfl (fun e => (h.r.n e).touch (touchD _ _ _ _) h.ofD (by decide) (by decide) (by decide)) (fun e => ⟨(h.r.l e).p, (h.r.l e).n, ((h.r.l e).touch (touchD _ _ _ _) h.ofD (by decide) (by decide)).l⟩) h.r.u h.r.f
  have HC := Lib.hid (brest_any k1 hl (x.extract 0 n) (by rw [ByteArray.size_extract]; omega))
  have hl2 : s.some x.data.toList = (({ s with left := s.left - n }).rest (x.extract 0 n).data.toList, n) := by
    unfold BdS.some
    rw [← Lib.size_eq, ← hn]
    simp
  have hsz : (x.extract 0 n).size = n := by rw [ByteArray.size_extract]; omega
  rw [hl2]
  have HL := Lib.hid hl2
  have hleft : s.left - (n : Int) ≤ 9223372036854775807 := by omega
  have hleft0 : 0 ≤ s.left - (n : Int) := by omega
  have hmin : min (x.size : Int) s.left = (n : Int) := hn.symm
  have hsl : ∀ W : World, (Instr.slice 9 (.string x) none (some (.int .i64 (n : Int))) none).run Tryz.prog W = .ok (.string (x.extract 0 n)) W := fun W => by
    rw [run_slice_string_h W 9 x Tryz.underlying9 .i64 (n : Int) (by omega) (by omega), Int.toNat_natCast]
  have HG := Lib.hid (show BdGo w (w.setCell ⟨D, 7, none⟩ (.int .i64 (s.left - n))) D V V from ⟨(touchD w D 7 _).mono (fun _ _ e => Or.inl e), fun _ _ e => e⟩)
  clear h hl k1 hl2 hn
  go_enter Tryz.func46, Tryz.ntmps46
  go_wp2_with (go_at_call 30; refine HC.out.mono ?_; rintro e1 w1 ⟨rfl, vo, h1, g1⟩; have H1 := Lib.hid h1; have G1 := Lib.hid g1; clear h1 g1)
  go_ret
  exact ⟨rfl, vo, H1.out, HG.out.trans G1.out⟩
/-- What some leaves: at most as much is left. -/
theorem some_left {s : BdS} (h0 : 0 ≤ s.left) (x : List UInt8) : 0 ≤ (s.some x).1.left ∧ (s.some x).1.left ≤ s.left := by
  unfold BdS.some BdS.rest BdS.put
  simp only
  omega
theorem some_out (s : BdS) (x : List UInt8) : (s.some x).1.out.length = s.out.length + 1 := by
  unfold BdS.some BdS.rest BdS.put
  simp
set_option maxRecDepth 100000 in
theorem bsized_any {w : World} {D n0 : Nat} {m : Lm} {s : BdS} {V : BdV} (h : BdAt w D n0 m s V) (hl : s.out.length ≤ 999999) (hm : s.md = .sized) (x : ByteArray) (hx : x.size ≤ 1000000) (h0 : 0 ≤ s.left) (h1 : s.left ≤ 9223372036854775807) :
    Calls Tryz.prog 28 #[.pointer (some ⟨D, 0, none⟩), .string x] w fun e w' => e = .returned (.int .i64 (bStep m s x.data.toList).2) ∧ ∃ V', BdAt w' D n0 m (bStep m s x.data.toList).1 V' ∧ BdGo w w' D V V' := by
  obtain ⟨R, hR⟩ : ∃ R, R = s.some x.data.toList := ⟨_, rfl⟩
  have hb : bStep m s x.data.toList = (if R.1.left = 0 then R.1.ends else R.1, R.2) := by
    rw [hR]
    unfold bStep
    rw [hm]
  have HC := Lib.hid (bsome_any h (by omega) x hx h0 h1)
  have hlo : R.1.out.length ≤ 1000000 := by rw [hR, some_out]; omega
  rw [← hR] at HC
  rw [hb]
  clear h hl hm hb hR
  by_cases hz : R.1.left = 0
  · rw [if_pos hz]
    go_enter Tryz.func28, Tryz.ntmps28
    go_wp2_with (first | (go_at_call 46; refine HC.out.mono ?_; rintro e1 w1 ⟨rfl, vo, h1, g1⟩; have y7 : w1.cell? ⟨D, 7, none⟩ = some (.int .i64 R.1.left) := h1.k.cell 7; rw [hz] at y7; have H1 := Lib.hid h1; have G1 := Lib.hid g1; clear h1 g1) | (go_at_call 34; refine (bends_any H1.out hlo).mono ?_; rintro e2 w2 ⟨rfl, vo2, h2, g2⟩; have H2 := Lib.hid h2; have G2 := Lib.hid g2; clear h2 g2))
    go_ret
    exact ⟨rfl, _, H2.out, G1.out.trans G2.out⟩
  · rw [if_neg hz]
    have hz2 : (R.1.left == 0) = false := by rw [beq_eq_false_iff_ne]; exact hz
    clear hz
    go_enter Tryz.func28, Tryz.ntmps28
    go_wp2_with (go_at_call 46; refine HC.out.mono ?_; rintro e1 w1 ⟨rfl, vo, h1, g1⟩; have y7 : w1.cell? ⟨D, 7, none⟩ = some (.int .i64 R.1.left) := h1.k.cell 7; have H1 := Lib.hid h1; have G1 := Lib.hid g1; clear h1 g1)
    go_ret
    exact ⟨rfl, _, H1.out, G1.out⟩
end Go.Proofs.YtbglakhojbhfbaaGreatDoor
-- PLine
namespace Go.Proofs.YtbglakhojbhfbaaGreatDoor
open Go.RowKit
/-- What the call of Parse reads of a parser. -/
structure PlS (b : Nat) (va : Value) (kind a fields c d fold : Int) (w : World) : Prop where
  c1 : w.cell? ⟨b, 1, none⟩ = some (.int .i64 kind)
  c2 : w.cell? ⟨b, 2, none⟩ = some (.int .i64 a)
  c3 : w.cell? ⟨b, 3, none⟩ = some (.int .i64 fields)
  c4 : w.cell? ⟨b, 4, none⟩ = some (.int .i64 c)
  c5 : w.cell? ⟨b, 5, none⟩ = some (.int .i64 d)
  c6 : w.cell? ⟨b, 6, none⟩ = some (.int .i64 fold)
  c7 : w.cell? ⟨b, 7, none⟩ = some va
/-- The head's six cells of a parser. -/
def setH (w : World) (b : Nat) (h : Hd) (f : Value) : World := (((((w.setCell ⟨b, 9, none⟩ (.string h.m)).setCell ⟨b, 10, none⟩ (.string h.t)).setCell ⟨b, 11, none⟩ (.int .i64 h.k)).setCell ⟨b, 12, none⟩ (.int .i64 h.n)).setCell ⟨b, 13, none⟩ (.string h.r)).setCell ⟨b, 14, none⟩ f
theorem touch_setH (w : World) (b : Nat) (q : Hd) (f : Value) : Touch (fun j => j = b) w (setH w b q f) :=
  ((((((Touch.refl (fun j => j = b) w).setCell (p := ⟨b, 9, none⟩) rfl _).setCell (p := ⟨b, 10, none⟩) rfl _).setCell (p := ⟨b, 11, none⟩) rfl _).setCell (p := ⟨b, 12, none⟩) rfl _).setCell (p := ⟨b, 13, none⟩) rfl _).setCell (p := ⟨b, 14, none⟩) rfl _
end Go.Proofs.YtbglakhojbhfbaaGreatDoor
-- PaOk
namespace Go.Proofs.YtbglakhojbhfbaaGreatDoor
open Go.RowKit
theorem pAcc_len : ∀ l : List ByteArray, (pAcc l).1.length ≤ l.length
  | [] => Nat.le_refl _
  | s :: l => by
    have ih := pAcc_len l
    unfold pAcc
    split
    · exact Nat.zero_le _
    split
    · exact Nat.zero_le _
    · simpa using ih
theorem allF_len (fold : Int) (l : List ByteArray) : (allF fold l).1.length ≤ l.length := by
  unfold allF
  cases hu : ufold fold l with
  | none => exact Nat.zero_le _
  | some out =>
    have h1 : out.length ≤ l.length := (ufold_len fold l l.length (Nat.le_refl _) out (by rw [List.take_length]; exact hu)).1
    exact Nat.le_trans (pAcc_len out) h1
theorem headP_len (kind fields fold : Int) (l : List ByteArray) : (headP kind fields fold l).1.fs.length ≤ l.length := by
  unfold headP
  split
  · exact Nat.zero_le _
  · cases l with
    | nil => exact Nat.zero_le _
    | cons s rest =>
      show (if (firstP kind s).2 ≠ 0 then (hd0, (firstP kind s).2) else if fields < (rest.length : Int) then (hd0, 4) else if (allF fold rest).2 ≠ 0 then (hd0, (allF fold rest).2) else ({ (firstP kind s).1 with fs := (allF fold rest).1 }, 0)).1.fs.length ≤ rest.length + 1
      split
      · exact Nat.zero_le _
      split
      · exact Nat.zero_le _
      split
      · exact Nat.zero_le _
      · exact Nat.le_succ_of_le (allF_len fold rest)
/-- How much a parser may hold; it awaits a line. -/
structure PaBd (p : PaS) : Prop where
  l : LnOk p.ln
  t : (p.ln.line.length + tot p.all + p.all.length : Int) ≤ p.ln.spent
  w : p.ln.whole = false
  e : p.fin = false → p.e = 0 → p.ln.e = 0
  f : p.hd.fs.length ≤ 65536
theorem PaBd.all {p : PaS} (h : PaBd p) : p.all.length ≤ 65536 ∧ tot p.all ≤ 65536 := by
  have := h.t
  have := h.l.m
  have := h.l.l0
  omega
theorem seeP_D (s : LnS) (c : UInt8) : s.spent - s.line.length + (if (seeP s c).1.whole = true ∧ s.whole = false then 1 else 0) ≤ (seeP s c).1.spent - (seeP s c).1.line.length := by
  obtain ⟨L, S, Ln, Wi, Tu, Wh, E⟩ := s
  unfold seeP
  repeat' split
  all_goals simp_all
  all_goals omega
theorem lnFeed_D : ∀ (l : List UInt8) (s : LnS), s.spent - s.line.length + (if (lnFeed l s).1.whole = true ∧ s.whole = false then 1 else 0) ≤ (lnFeed l s).1.spent - (lnFeed l s).1.line.length
  | [], s => by
    have : ¬ (s.whole = true ∧ s.whole = false) := by rintro ⟨a, b⟩; rw [a] at b; cases b
    show s.spent - s.line.length + (if s.whole = true ∧ s.whole = false then 1 else 0) ≤ s.spent - s.line.length
    rw [if_neg this]
    omega
  | c :: r, s => by
    have hn : ∀ x : LnS, ¬ (x.whole = true ∧ x.whole = false) := by rintro x ⟨a, b⟩; rw [a] at b; cases b
    rw [lnFeed]
    by_cases h1 : s.whole = true ∨ s.e ≠ 0
    · rw [if_pos h1]
      show s.spent - s.line.length + (if s.whole = true ∧ s.whole = false then 1 else 0) ≤ s.spent - s.line.length
      rw [if_neg (hn s)]
      omega
    · rw [if_neg h1]
      have hs := seeP_D s c
      by_cases h2 : (seeP s c).2 = 0
      · rw [if_pos h2]
        have ih := lnFeed_D r { (seeP s c).1 with e := 0 }
        have hw : s.whole = false := by
          cases hw : s.whole with
          | true => exact absurd (Or.inl hw) h1
          | false => rfl
        simp only [hw, and_true] at hs ⊢
        generalize (lnFeed r { (seeP s c).1 with e := 0 }).1 = q at ih ⊢
        simp only at ih
        cases hq : q.whole with
        | false =>
          simp only [hq, Bool.false_eq_true, false_and, if_false] at ih ⊢
          split at hs <;> omega
        | true =>
          cases hp : (seeP s c).1.whole with
          | true =>
            simp only [hp, if_true] at hs
            simp only [hq, hp, Bool.true_eq_false, and_false, if_false, if_true] at ih ⊢
            omega
          | false =>
            simp only [hp, Bool.false_eq_true, if_false] at hs
            simp only [hq, hp, and_self, if_true] at ih ⊢
            omega
      · rw [if_neg h2]
        exact hs
theorem lnFeed_stuck {l : List UInt8} {s : LnS} (hl : l ≠ []) (hw : s.whole = false) (he : s.e = 0) (h0 : (lnFeed l s).2 = 0) : (lnFeed l s).1.e ≠ 0 ∧ (lnFeed l s).1.whole = false := by
  cases l with
  | nil => exact absurd rfl hl
  | cons c r =>
    rw [lnFeed, if_neg (by rw [hw, he]; simp)] at h0 ⊢
    by_cases h2 : (seeP s c).2 = 0
    · rw [if_pos h2] at h0
      exact absurd h0 (Nat.succ_ne_zero _)
    · rw [if_neg h2]
      refine ⟨h2, ?_⟩
      revert h2
      unfold seeP
      repeat' split
      all_goals first
        | (intro _; exact hw)
        | (intro hs; exact absurd rfl hs)
/-- A turn of the loop keeps the bounds. -/
theorem pIter_ok (kind fields fold : Int) (l : List UInt8) {p : PaS} (h : PaBd p) : PaBd (pIter kind fields fold l p) := by
  have h1 := lnFeed_ok l p.ln h.l
  have h2 := lnFeed_D l p.ln
  have h3 := h.t
  rw [h.w] at h2
  simp only [and_true] at h2
  unfold pIter
  generalize (lnFeed l p.ln).1 = q at h1 h2 ⊢
  cases hq : q.whole with
  | true =>
    simp only [hq, if_true] at h2 ⊢
    unfold lineP
    by_cases hs : (strL q.line).size ≠ 0
    · rw [if_pos hs]
      refine ⟨⟨h1.l0, h1.s0, h1.m, ?_⟩, ?_, rfl, fun _ e => e, h.f⟩
      · have := h1.s0
        simpa using this
      · show ((0 : Nat) : Int) + tot (p.all ++ [strL q.line]) + (p.all ++ [strL q.line]).length ≤ q.spent
        rw [tot_snoc, strL_size, List.length_append]
        simp only [List.length_singleton]
        omega
    · rw [if_neg hs]
      split
      · refine ⟨⟨h1.l0, h1.s0, h1.m, by have := h1.s0; simpa using this⟩, ?_, rfl, (fun e => by cases e), Nat.le_trans (headP_len _ _ _ _) h.all.1⟩
        show ((0 : Nat) : Int) + tot p.all + p.all.length ≤ q.spent
        omega
      · refine ⟨⟨h1.l0, h1.s0, h1.m, by have := h1.s0; simpa using this⟩, ?_, rfl, fun _ e => e, h.f⟩
        show ((0 : Nat) : Int) + tot p.all + p.all.length ≤ q.spent
        omega
  | false =>
    simp only [hq, Bool.false_eq_true, if_false] at h2 ⊢
    refine ⟨h1, ?_, hq, fun _ e => e, h.f⟩
    show (q.line.length : Int) + tot p.all + p.all.length ≤ q.spent
    omega
end Go.Proofs.YtbglakhojbhfbaaGreatDoor

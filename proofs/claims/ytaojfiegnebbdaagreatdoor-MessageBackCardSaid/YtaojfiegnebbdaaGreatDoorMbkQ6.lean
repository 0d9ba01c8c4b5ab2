/- Texts packed for one claim, 6 of 52: FParse FParseW FrP. -/
import Derived.Test.YtaojfiegnebbdaaGreatDoorMbkQ3
import Derived.Test.YtaojfiegnebbdaaGreatDoorMbkQ4
import Derived.Test.YtaojfiegnebbdaaGreatDoorMbkQ5
import Derived.Test.YtaojfiegnebbdaaGreatDoorMbkShelf
set_option maxRecDepth 100000
set_option maxHeartbeats 16000000
set_option linter.unusedSimpArgs false
set_option linter.unusedVariables false
-- FParse
namespace Go.Proofs.YtaojfiegnebbdaaGreatDoor
open Go.RowKit
def preL (l : List UInt8) : List UInt8 := l.takeWhile fun b => b != 58
def fparse (s : ByteArray) : Fd × Int :=
 if (preL s.data.toList).length = s.size then ((⟨#[]⟩, ⟨#[]⟩), 3)
 else if !tokL (preL s.data.toList) then ((⟨#[]⟩, ⟨#[]⟩), 6)
 else if !valL (s.data.toList.drop ((preL s.data.toList).length + 1)) then ((⟨#[]⟩, ⟨#[]⟩), 7)
 else ((⟨(preL s.data.toList).toArray⟩, trimB ⟨(s.data.toList.drop ((preL s.data.toList).length + 1)).toArray⟩), 0)
theorem index_colon : ∀ l : List UInt8, Lib.index l [58] = if (preL l).length = l.length then -1 else ((preL l).length : Int)
 | [] => by simp [Lib.index, preL]
 | b :: l => by
   have ih := index_colon l
   unfold Lib.index
   by_cases h : b = 58
   ·subst h
    simp [preL]
   ·have e1 : ([58] : List UInt8).isPrefixOf (b :: l) = false := by
     simp [List.isPrefixOf, Ne.symm h]
    have e2 : preL (b :: l) = b :: preL l := by unfold preL; rw [List.takeWhile_cons]; simp [h]
    rw [e1, e2, ih]
    simp only [List.length_cons, Bool.false_eq_true, if_false]
    by_cases h2 : (preL l).length = l.length
    ·simp [h2]
    ·have h3 : ((((preL l).length : Int) == -1)) = false := by rw [beq_eq_false_iff_ne]; omega
     simp [h2, h3]
theorem preL_le (l : List UInt8) : (preL l).length ≤ l.length := (List.takeWhile_sublist _).length_le
theorem preL_take (l : List UInt8) : l.take (preL l).length = preL l := by
 unfold preL
 exact (List.prefix_iff_eq_take.1 (List.takeWhile_prefix _)).symm
theorem cut_colon (l : List UInt8) : Lib.cut l [58] = if (preL l).length = l.length then (l, [], false) else (preL l, l.drop ((preL l).length + 1), true) := by
 unfold Lib.cut
 rw [index_colon]
 by_cases h : (preL l).length = l.length
 ·rw [if_pos h, if_neg (by omega), if_pos h]
 ·rw [if_neg h, if_pos (by omega), if_neg h, Int.toNat_natCast, preL_take]
  rfl
theorem mx_below {w w1 : World} {mx : Int} (hm : w.cell? ⟨0, 0, none⟩ = some (.int .i64 mx)) (hb : Below w.heap.size w w1) : w1.cell? ⟨0, 0, none⟩ = some (.int .i64 mx) :=
 (hb.cell (p := ⟨0, 0, none⟩) (World.block_lt_of_cell? w _ hm)).trans hm
theorem cut_any (s : ByteArray) {mx : Int} (w : World) (hm : w.cell? ⟨0, 0, none⟩ = some (.int .i64 mx)) (hs : s.size ≤ 1000000) {p q : ByteArray} {f : Bool} (h : Lib.cut s.data.toList [58] = (p.data.toList, q.data.toList, f)) :
 Calls Tryz.prog 226 #[.string s, .string ⟨#[58]⟩] w fun e w' => e = .returned (.tuple #[.string p, .string q, .bool f]) ∧ Below w.heap.size w w' :=
 (Tryz.strings_Cut s ⟨#[58]⟩ mx w (by omega) hm).mono fun e w' ⟨he, n, hw⟩ => ⟨by
  have e1 : (⟨#[58]⟩ : ByteArray).data.toList = [58] := rfl
  rw [he, e1, h], by rw [hw]; exact below_drewN _ _⟩
theorem preL_size (s : ByteArray) : (⟨(preL s.data.toList).toArray⟩ : ByteArray).size ≤ s.size := by
 have := preL_le s.data.toList
 show (preL s.data.toList).toArray.size ≤ _
 simpa using this
theorem post_size (s : ByteArray) (k : Nat) : (⟨(s.data.toList.drop k).toArray⟩ : ByteArray).size ≤ s.size := by
 show (s.data.toList.drop k).toArray.size ≤ _
 simp
end Go.Proofs.YtaojfiegnebbdaaGreatDoor
-- FParseW
namespace Go.Proofs.YtaojfiegnebbdaaGreatDoor
open Go.RowKit
theorem below_one {w w1 : World} {o : Obj} (h : Below (w.alloc o).heap.size (w.alloc o) w1) : Below w.heap.size w w1 := ((Below.refl _ _).alloc (nR _) _).trans (h.mono (by simp))
theorem blk_set2 {w : World} {g : Nat} {t : TypeId} {x0 x1 : Value} (h : Blk w g #[x0, x1] t) (a b : Value) : Blk ((w.setCell ⟨g, 0, none⟩ a).setCell ⟨g, 1, none⟩ b) g #[a, b] t := by
 have := (h.set 0 a).set 1 b
 simp at this
 exact this
theorem results_agg_tmp {P : Program} {fn : Func} {p u : Tmp} {ty : TypeId} (h : fn.results = #[.cell p ty, .tmp u]) (tmps : Array Value) (w : World) (g : Nat) (cs : Array Value)
 (hp : tmps.getD p undef = .pointer (some ⟨g, 0, none⟩)) (hl : (loadVar ty ⟨g, 0, none⟩).run P w = .ok (.agg cs) w) :
 (results fn tmps).run P w = .ok (.tuple #[.agg cs, tmps.getD u undef]) w := by
 rw [results_cell_tmp h, hp]
 show ((loadVar ty ⟨g, 0, none⟩).run P w).andThen _ = _
 rw [hl]
 rfl
theorem parse_none (s p q : ByteArray) {mx : Int} (hs : s.size ≤ 1000000) (hp : p.size ≤ 1000000) (hq : q.size ≤ 1000000) (hc : Lib.cut s.data.toList [58] = (p.data.toList, q.data.toList, false)) (w : World) (hm : w.cell? ⟨0, 0, none⟩ = some (.int .i64 mx)) :
 Calls Tryz.prog 201 #[.string s] w fun e w' => e = .returned (.tuple #[.agg #[.string ⟨#[]⟩, .string ⟨#[]⟩], .int .i64 3]) ∧ Below w.heap.size w w' := by
 have HC := lH (fun (W : World) hW => cut_any s W (mx := mx) hW hs hc)
 have HM : Hid ((w.alloc (.cells #[.string ⟨#[]⟩, .string ⟨#[]⟩] 75)).cell? ⟨0, 0, none⟩ = some (.int .i64 mx)) := mx_below hm ((Below.refl _ _).alloc (nR _) _)
 clear hc hm
 go_enter Tryz.func201, Tryz.ntmps201
 go_wp2_with (first | (go_at_call 226; refine (HC.out _ HM.out).mono ?_; rintro e1 w1 ⟨rfl, hb⟩; have K1 := lH ((Blk.new w #[.string ⟨#[]⟩, .string ⟨#[]⟩] 75).call hb); have B1 := lH (below_one hb); have hl1 := K1.out.lt; clear hb; have a10 := K1.out.cell 0; have f10 := K1.out.froz 0; have a11 := K1.out.cell 1; have f11 := K1.out.froz 1; simp at a10 a11))
 exact bodyPost_ret (results_agg_tmp Tryz.results201 _ _ _ _ rfl (run_loadVar_row _ _ _ _ _ _ _ (blk_set2 K1.out _ _) Tryz.underlying75 rfl (by kernel_rfl))) rfl ⟨rfl, (B1.out.setCell (nR _) _).setCell (nR _) _⟩
theorem parse_name (s p q : ByteArray) {mx : Int} (hs : s.size ≤ 1000000) (hp : p.size ≤ 1000000) (hq : q.size ≤ 1000000) (hc : Lib.cut s.data.toList [58] = (p.data.toList, q.data.toList, true)) (htok : tokL p.data.toList = false) (w : World) (hm : w.cell? ⟨0, 0, none⟩ = some (.int .i64 mx)) :
 Calls Tryz.prog 201 #[.string s] w fun e w' => e = .returned (.tuple #[.agg #[.string ⟨#[]⟩, .string ⟨#[]⟩], .int .i64 6]) ∧ Below w.heap.size w w' := by
 have HC := lH (fun (W : World) hW => cut_any s W (mx := mx) hW hs hc)
 have HM : Hid ((w.alloc (.cells #[.string ⟨#[]⟩, .string ⟨#[]⟩] 75)).cell? ⟨0, 0, none⟩ = some (.int .i64 mx)) := mx_below hm ((Below.refl _ _).alloc (nR _) _)
 have htk := fun W => token_any p (by omega) W
 rw [htok] at htk
 have HT := lH htk
 clear hc hm htk htok
 go_enter Tryz.func201, Tryz.ntmps201
 go_wp2_with (first | (go_at_call 226; refine (HC.out _ HM.out).mono ?_; rintro e1 w1 ⟨rfl, hb⟩; have K1 := lH ((Blk.new w #[.string ⟨#[]⟩, .string ⟨#[]⟩] 75).call hb); have B1 := lH (below_one hb); have hl1 := K1.out.lt; clear hb; have a10 := K1.out.cell 0; have f10 := K1.out.froz 0; have a11 := K1.out.cell 1; have f11 := K1.out.froz 1; simp at a10 a11) | (go_at_call 106; refine (HT.out _).mono ?_; rintro e2 w2 ⟨rfl, hb⟩; have K2 := lH (K1.out.call hb); have B2 := lH (B1.out.trans (hb.mono B1.out.size)); have hl2 := K2.out.lt; clear hb; have a20 := K2.out.cell 0; have f20 := K2.out.froz 0; have a21 := K2.out.cell 1; have f21 := K2.out.froz 1; simp at a20 a21))
 exact bodyPost_ret (results_agg_tmp Tryz.results201 _ _ _ _ rfl (run_loadVar_row _ _ _ _ _ _ _ (blk_set2 K2.out _ _) Tryz.underlying75 rfl (by kernel_rfl))) rfl ⟨rfl, (B2.out.setCell (nR _) _).setCell (nR _) _⟩
theorem parse_value (s p q : ByteArray) {mx : Int} (hs : s.size ≤ 1000000) (hp : p.size ≤ 1000000) (hq : q.size ≤ 1000000) (hc : Lib.cut s.data.toList [58] = (p.data.toList, q.data.toList, true)) (htok : tokL p.data.toList = true) (hval : valL q.data.toList = false) (w : World) (hm : w.cell? ⟨0, 0, none⟩ = some (.int .i64 mx)) :
 Calls Tryz.prog 201 #[.string s] w fun e w' => e = .returned (.tuple #[.agg #[.string ⟨#[]⟩, .string ⟨#[]⟩], .int .i64 7]) ∧ Below w.heap.size w w' := by
 have HC := lH (fun (W : World) hW => cut_any s W (mx := mx) hW hs hc)
 have HM : Hid ((w.alloc (.cells #[.string ⟨#[]⟩, .string ⟨#[]⟩] 75)).cell? ⟨0, 0, none⟩ = some (.int .i64 mx)) := mx_below hm ((Below.refl _ _).alloc (nR _) _)
 have htk := fun W => token_any p (by omega) W
 rw [htok] at htk
 have HT := lH htk
 have hvl := fun W => value_any q (by omega) W
 rw [hval] at hvl
 have HV := lH hvl
 clear hc hm htk htok hvl hval
 go_enter Tryz.func201, Tryz.ntmps201
 go_wp2_with (first | (go_at_call 226; refine (HC.out _ HM.out).mono ?_; rintro e1 w1 ⟨rfl, hb⟩; have K1 := lH ((Blk.new w #[.string ⟨#[]⟩, .string ⟨#[]⟩] 75).call hb); have B1 := lH (below_one hb); have hl1 := K1.out.lt; clear hb; have a10 := K1.out.cell 0; have f10 := K1.out.froz 0; have a11 := K1.out.cell 1; have f11 := K1.out.froz 1; simp at a10 a11) | (go_at_call 106; refine (HT.out _).mono ?_; rintro e2 w2 ⟨rfl, hb⟩; have K2 := lH (K1.out.call hb); have B2 := lH (B1.out.trans (hb.mono B1.out.size)); have hl2 := K2.out.lt; clear hb; have a20 := K2.out.cell 0; have f20 := K2.out.froz 0; have a21 := K2.out.cell 1; have f21 := K2.out.froz 1; simp at a20 a21) | (go_at_call 107; refine (HV.out _).mono ?_; rintro e3 w3 ⟨rfl, hb⟩; have K3 := lH (K2.out.call hb); have B3 := lH (B2.out.trans (hb.mono B2.out.size)); have hl3 := K3.out.lt; clear hb; have a30 := K3.out.cell 0; have f30 := K3.out.froz 0; have a31 := K3.out.cell 1; have f31 := K3.out.froz 1; simp at a30 a31))
 exact bodyPost_ret (results_agg_tmp Tryz.results201 _ _ _ _ rfl (run_loadVar_row _ _ _ _ _ _ _ (blk_set2 K3.out _ _) Tryz.underlying75 rfl (by kernel_rfl))) rfl ⟨rfl, (B3.out.setCell (nR _) _).setCell (nR _) _⟩
theorem parse_ok (s p q : ByteArray) {mx : Int} (hs : s.size ≤ 1000000) (hp : p.size ≤ 1000000) (hq : q.size ≤ 1000000) (hc : Lib.cut s.data.toList [58] = (p.data.toList, q.data.toList, true)) (htok : tokL p.data.toList = true) (hval : valL q.data.toList = true) (w : World) (hm : w.cell? ⟨0, 0, none⟩ = some (.int .i64 mx)) :
 Calls Tryz.prog 201 #[.string s] w fun e w' => e = .returned (.tuple #[.agg #[.string p, .string (trimB q)], .int .i64 0]) ∧ Below w.heap.size w w' := by
 have HC := lH (fun (W : World) hW => cut_any s W (mx := mx) hW hs hc)
 have HM : Hid ((w.alloc (.cells #[.string ⟨#[]⟩, .string ⟨#[]⟩] 75)).cell? ⟨0, 0, none⟩ = some (.int .i64 mx)) := mx_below hm ((Below.refl _ _).alloc (nR _) _)
 have htk := fun W => token_any p (by omega) W
 rw [htok] at htk
 have HT := lH htk
 have hvl := fun W => value_any q (by omega) W
 rw [hval] at hvl
 have HV := lH hvl
 have HR := lH (fun W => trim_any q (by omega) W)
 obtain ⟨R, hR⟩ : ∃ R, R = trimB q := ⟨_, rfl⟩
 rw [← hR] at HR ⊢
 clear hc hm htk htok hvl hval hR
 go_enter Tryz.func201, Tryz.ntmps201
 go_wp2_with (first | (go_at_call 226; refine (HC.out _ HM.out).mono ?_; rintro e1 w1 ⟨rfl, hb⟩; have K1 := lH ((Blk.new w #[.string ⟨#[]⟩, .string ⟨#[]⟩] 75).call hb); have B1 := lH (below_one hb); have hl1 := K1.out.lt; clear hb; have a10 := K1.out.cell 0; have f10 := K1.out.froz 0; have a11 := K1.out.cell 1; have f11 := K1.out.froz 1; simp at a10 a11) | (go_at_call 106; refine (HT.out _).mono ?_; rintro e2 w2 ⟨rfl, hb⟩; have K2 := lH (K1.out.call hb); have B2 := lH (B1.out.trans (hb.mono B1.out.size)); have hl2 := K2.out.lt; clear hb; have a20 := K2.out.cell 0; have f20 := K2.out.froz 0; have a21 := K2.out.cell 1; have f21 := K2.out.froz 1; simp at a20 a21) | (go_at_call 107; refine (HV.out _).mono ?_; rintro e3 w3 ⟨rfl, hb⟩; have K3 := lH (K2.out.call hb); have B3 := lH (B2.out.trans (hb.mono B2.out.size)); have hl3 := K3.out.lt; clear hb; have a30 := K3.out.cell 0; have f30 := K3.out.froz 0; have a31 := K3.out.cell 1; have f31 := K3.out.froz 1; simp at a30 a31) | (go_at_call 108; refine (HR.out _).mono ?_; rintro e4 w4 ⟨rfl, rfl⟩))
 exact bodyPost_ret (results_agg_tmp Tryz.results201 _ _ _ _ rfl (run_loadVar_row _ _ _ _ _ _ _ (blk_set2 K3.out _ _) Tryz.underlying75 rfl (by kernel_rfl))) rfl ⟨rfl, (B3.out.setCell (nR _) _).setCell (nR _) _⟩
theorem fparse_any (s : ByteArray) (hs : s.size ≤ 1000000) {mx : Int} (w : World) (hm : w.cell? ⟨0, 0, none⟩ = some (.int .i64 mx)) :
 Calls Tryz.prog 201 #[.string s] w fun e w' => e = .returned (.tuple #[.agg #[.string (fparse s).1.1, .string (fparse s).1.2], .int .i64 (fparse s).2]) ∧ Below w.heap.size w w' := by
 have hz : s.data.toList.length = s.size := by simp
 have hc := cut_colon s.data.toList
 unfold fparse
 by_cases h1 : (preL s.data.toList).length = s.size
 ·rw [if_pos (by rw [hz]; exact h1)] at hc
  rw [if_pos h1]
  exact parse_none s s ⟨#[]⟩ hs hs (by decide) hc w hm
 ·rw [if_neg (by rw [hz]; exact h1)] at hc
  rw [if_neg h1]
  have hp := preL_size s
  have hq := post_size s ((preL s.data.toList).length + 1)
  cases ht : tokL (preL s.data.toList)
  ·exact parse_name s ⟨(preL s.data.toList).toArray⟩ ⟨(s.data.toList.drop ((preL s.data.toList).length + 1)).toArray⟩ hs (by omega) (by omega) hc ht w hm
  ·cases hv : valL (s.data.toList.drop ((preL s.data.toList).length + 1))
   ·exact parse_value s ⟨(preL s.data.toList).toArray⟩ ⟨(s.data.toList.drop ((preL s.data.toList).length + 1)).toArray⟩ hs (by omega) (by omega) hc ht hv w hm
   ·exact parse_ok s ⟨(preL s.data.toList).toArray⟩ ⟨(s.data.toList.drop ((preL s.data.toList).length + 1)).toArray⟩ hs (by omega) (by omega) hc ht hv w hm
end Go.Proofs.YtaojfiegnebbdaaGreatDoor
-- FrP
namespace Go.Proofs.YtaojfiegnebbdaaGreatDoor
open Go.RowKit
def chkB : ByteArray := ⟨#[99, 104, 117, 110, 107, 101, 100]⟩
def wOk (e : ByteArray) : Bool := (wordP e).2.2 == 0
def wCh (e : ByteArray) : Bool := decide ((wordP e).1 = chkB)
def wBad (last : Bool) (e : ByteArray) : Bool := (wordP e).2.2 != 0 || ((last != wCh e) || (last && decide (0 < (wordP e).2.1)))
def codR (l : List ByteArray) : Bool × Int :=
 if l = [] then (false, 14)
 else if (l.dropLast.any (wBad false) || wBad true (l.getLast?.getD ⟨#[]⟩)) = true then (false, 14)
 else if 1 < l.length then (false, 15) else (true, 0)
def cntC (l : List ByteArray) : Nat := (l.filter wCh).length
def codQ (l : List ByteArray) : Bool × Int :=
 if (l.all wOk = false) ∨ cntC l ≠ 1 then (false, 14)
 else match l.getLast? with
  | none => (false, 14)
  | some e => if wCh e = false ∨ 0 < (wordP e).2.1 then (false, 14) else if 1 < l.length then (false, 15) else (true, 0)
theorem cntC_append (a b : List ByteArray) : cntC (a ++ b) = cntC a + cntC b := by unfold cntC; rw [List.filter_append, List.length_append]
theorem cntC_zero {a : List ByteArray} : cntC a = 0 ↔ a.all (fun e => !wCh e) = true := by
 unfold cntC
 rw [List.length_eq_zero_iff, List.filter_eq_nil_iff, List.all_eq_true]
 constructor
 ·intro h e he
  have := h e he
  simpa using this
 ·intro h e he
  have := h e he
  simpa using this
theorem any_bad (a : List ByteArray) : a.any (wBad false) = !(a.all wOk && a.all (fun e => !wCh e)) := by
 induction a with
 | nil => rfl
 | cons e a ih =>
   rw [List.any_cons, List.all_cons, List.all_cons, ih]
   have : wBad false e = !(wOk e && !wCh e) := by
    unfold wBad wOk
    cases h1 : ((wordP e).2.2 == 0) <;> cases h2 : wCh e <;> simp [bne, h1]
   rw [this]
   cases wOk e <;> cases wCh e <;> cases a.all wOk <;> cases a.all (fun e => !wCh e) <;> rfl
theorem cod_law (l : List ByteArray) : codQ l = codR l := by
 rcases List.eq_nil_or_concat l with rfl | ⟨a, e, rfl⟩
 ·rfl
 rw [List.concat_eq_append]
 have hl : (a ++ [e]).getLast? = some e := by simp
 unfold codQ
 rw [hl, List.all_append, cntC_append]
 have hR : codR (a ++ [e]) = if (a.any (wBad false) || wBad true e) = true then (false, 14) else if 1 < (a ++ [e]).length then (false, 15) else (true, 0) := by
  unfold codR
  rw [if_neg (by simp), hl, List.dropLast_concat]
  rfl
 rw [hR, any_bad]
 have hs : ([e] : List ByteArray).all wOk = wOk e := by simp
 have hc : cntC [e] = if wCh e = true then 1 else 0 := by unfold cntC; cases h : wCh e <;> simp [h]
 rw [hs, hc]
 have hb : wBad true e = !(wOk e && (wCh e && !decide (0 < (wordP e).2.1))) := by
  unfold wBad wOk
  cases h1 : ((wordP e).2.2 == 0) <;> cases h2 : wCh e <;> cases h3 : decide (0 < (wordP e).2.1) <;> simp [bne, h1]
 rw [hb]
 have hz := cntC_zero (a := a)
 cases h1 : a.all wOk
 ·simp
 cases h2 : wOk e
 ·simp
 cases h3 : wCh e
 ·by_cases h4 : cntC a = 1
  ·simp [h4, h3]
  ·simp [h4]
 by_cases h4 : cntC a = 0
 ·rw [h4, hz.1 h4]
  by_cases h5 : 0 < (wordP e).2.1
  ·simp [h5]
  ·simp [h5, h3]
 ·have : a.all (fun e => !wCh e) = false := by
   rw [Bool.eq_false_iff]
   exact fun h => h4 (hz.2 h)
  rw [this]
  simp [h4]
def lenF : Int → List ByteArray → Option Int
 | f, [] => some f
 | f, p :: t => if (numRes p.data.toList 10 2147483647).2 ≠ 0 ∨ (0 ≤ f ∧ (numRes p.data.toList 10 2147483647).1 ≠ f) then none else lenF (numRes p.data.toList 10 2147483647).1 t
def partL : List UInt8 → List UInt8 → List (List UInt8)
 | a, [] => [a]
 | a, c :: l => if c = 44 then a :: partL [] l else partL (a ++ [c]) l
def partB (s : ByteArray) : List ByteArray := (partL [] s.data.toList).map fun p => ⟨(trimL p).toArray⟩
def allB (fs : List Fd) (name : ByteArray) : List ByteArray := (fs.filter fun f => decide (lowB f.1 = lowB name)).map (·.2)
def teB : ByteArray := ⟨#[84, 114, 97, 110, 115, 102, 101, 114, 45, 69, 110, 99, 111, 100, 105, 110, 103]⟩
def clB : ByteArray := ⟨#[67, 111, 110, 116, 101, 110, 116, 45, 76, 101, 110, 103, 116, 104]⟩
def hoB : ByteArray := ⟨#[72, 111, 115, 116]⟩
def joinL : List ByteArray → ByteArray
 | [] => ⟨#[]⟩
 | [s] => s
 | s :: l => s ++ ⟨#[44, 32]⟩ ++ joinL l
def codP (fs : List Fd) : Bool × Int :=
 if allB fs teB = [] then (false, 0) else match splitP (joinL (allB fs teB)) with
  | none => (false, 14)
  | some l => codR l
def lenP (fs : List Fd) : Option Int := lenF (-1) ((allB fs clB).flatMap partB)
def saidP (fs : List Fd) (minor : Int) : Int × Int × Int :=
 if (codP fs).2 ≠ 0 then (0, 0, (codP fs).2)
 else if (codP fs).1 = true ∧ (minor ≤ 0 ∨ allB fs clB ≠ []) then (0, 0, 14)
 else match lenP fs with
  | none => (0, 0, 14)
  | some n => if (codP fs).1 = true then (2, 0, 0) else if 0 ≤ n then (1, n, 0) else (3, 0, 0)
def hostedP (fs : List Fd) (minor : Int) : Bool :=
 match allB fs hoB with
 | [] => decide (minor ≤ 0)
 | [s] => (hostR s.data.toList).2.2 == 0
 | _ => false
def reqP (fs : List Fd) (minor : Int) : Int × Int × Int :=
 if hostedP fs minor = false then (0, 0, 13)
 else if (saidP fs minor).1 = 3 then (0, 0, (saidP fs minor).2.2) else saidP fs minor
def bodilessP (status : Int) (method : ByteArray) : Bool := decide (method = ⟨#[72, 69, 65, 68]⟩) || (decide (100 ≤ status ∧ status ≤ 199) || (decide (status = 204) || decide (status = 304)))
def respP (fs : List Fd) (minor status : Int) (method : ByteArray) : Int × Int × Int :=
 if bodilessP status method = true then (0, 0, (saidP fs minor).2.2) else saidP fs minor
end Go.Proofs.YtaojfiegnebbdaaGreatDoor
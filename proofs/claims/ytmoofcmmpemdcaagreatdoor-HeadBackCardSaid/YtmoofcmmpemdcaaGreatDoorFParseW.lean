/- Package field: Parse. -/
import Derived.Test.YtmoofcmmpemdcaaGreatDoorFParse
set_option linter.unusedSimpArgs false
set_option linter.unusedVariables false
namespace Go.Proofs.YtmoofcmmpemdcaaGreatDoor
open Go.RowKit
theorem below_one {w w1 : World} {o : Obj} (h : Below (w.alloc o).heap.size (w.alloc o) w1) : Below w.heap.size w w1 := ((Below.refl _ _).alloc (Nat.le_refl _) _).trans (h.mono (by simp))
/-- A field's two cells, stored one by one. -/
theorem blk_set2 {w : World} {g : Nat} {t : TypeId} {x0 x1 : Value} (h : Blk w g #[x0, x1] t) (a b : Value) : Blk ((w.setCell ⟨g, 0, none⟩ a).setCell ⟨g, 1, none⟩ b) g #[a, b] t := by
  have := (h.set 0 a).set 1 b
  simp at this
  exact this
theorem results_agg_tmp {P : Program} {fn : Func} {p u : Tmp} {ty : TypeId} (h : fn.results = #[.cell p ty, .tmp u]) (tmps : Array Value) (w : World) (g : Nat) (cs : Array Value)
    (hp : tmps.getD p undef = .pointer (some ⟨g, 0, none⟩)) (hl : (loadVar ty ⟨g, 0, none⟩).run P w = .ok (.agg cs) w) :
    (results fn tmps).run P w = .ok (.tuple #[.agg cs, tmps.getD u undef]) w := by
  rw [results_cell_tmp h, hp]
  show ((loadVar ty ⟨g, 0, none⟩).run P w).andThen _ = _
  rw [hl]
  rfl
set_option maxRecDepth 100000 in
theorem parse_none (s p q : ByteArray) {mx : Int} (hs : s.size ≤ 1000000) (hp : p.size ≤ 1000000) (hq : q.size ≤ 1000000) (hc : Lib.cut s.data.toList [58] = (p.data.toList, q.data.toList, false)) (w : World) (hm : w.cell? ⟨0, 0, none⟩ = some (.int .i64 mx)) :
    Calls Tryz.prog 214 #[.string s] w fun e w' => e = .returned (.tuple #[.agg #[.string ⟨#[]⟩, .string ⟨#[]⟩], .int .i64 3]) ∧ Below w.heap.size w w' := by
  have HC := Lib.hid (fun (W : World) hW => cut_any s W (mx := mx) hW hs hc)
  have HM : Hid ((w.alloc (.cells #[.string ⟨#[]⟩, .string ⟨#[]⟩] 95)).cell? ⟨0, 0, none⟩ = some (.int .i64 mx)) := mx_below hm ((Below.refl _ _).alloc (Nat.le_refl _) _)
  clear hc hm
  go_enter Tryz.func214, Tryz.ntmps214
  go_wp2_with (first | (go_at_call 248; refine (HC.out _ HM.out).mono ?_; rintro e1 w1 ⟨rfl, hb⟩; have K1 := Lib.hid ((Blk.new w #[.string ⟨#[]⟩, .string ⟨#[]⟩] 95).call hb); have B1 := Lib.hid (below_one hb); have hl1 := K1.out.lt; clear hb; have a10 := K1.out.cell 0; have f10 := K1.out.froz 0; have a11 := K1.out.cell 1; have f11 := K1.out.froz 1; simp at a10 a11))
  exact bodyPost_ret (results_agg_tmp Tryz.results214 _ _ _ _ rfl (run_loadVar_row _ _ _ _ _ _ _ (blk_set2 K1.out _ _) Tryz.underlying95 rfl (by kernel_rfl))) rfl ⟨rfl, (B1.out.setCell (Nat.le_refl _) _).setCell (Nat.le_refl _) _⟩
set_option maxRecDepth 100000 in
theorem parse_name (s p q : ByteArray) {mx : Int} (hs : s.size ≤ 1000000) (hp : p.size ≤ 1000000) (hq : q.size ≤ 1000000) (hc : Lib.cut s.data.toList [58] = (p.data.toList, q.data.toList, true)) (htok : tokL p.data.toList = false) (w : World) (hm : w.cell? ⟨0, 0, none⟩ = some (.int .i64 mx)) :
    Calls Tryz.prog 214 #[.string s] w fun e w' => e = .returned (.tuple #[.agg #[.string ⟨#[]⟩, .string ⟨#[]⟩], .int .i64 6]) ∧ Below w.heap.size w w' := by
  have HC := Lib.hid (fun (W : World) hW => cut_any s W (mx := mx) hW hs hc)
  have HM : Hid ((w.alloc (.cells #[.string ⟨#[]⟩, .string ⟨#[]⟩] 95)).cell? ⟨0, 0, none⟩ = some (.int .i64 mx)) := mx_below hm ((Below.refl _ _).alloc (Nat.le_refl _) _)
  have htk := fun W => token_any p (by omega) W
  rw [htok] at htk
  have HT := Lib.hid htk
  clear hc hm htk htok
  go_enter Tryz.func214, Tryz.ntmps214
  go_wp2_with (first | (go_at_call 248; refine (HC.out _ HM.out).mono ?_; rintro e1 w1 ⟨rfl, hb⟩; have K1 := Lib.hid ((Blk.new w #[.string ⟨#[]⟩, .string ⟨#[]⟩] 95).call hb); have B1 := Lib.hid (below_one hb); have hl1 := K1.out.lt; clear hb; have a10 := K1.out.cell 0; have f10 := K1.out.froz 0; have a11 := K1.out.cell 1; have f11 := K1.out.froz 1; simp at a10 a11) | (go_at_call 114; refine (HT.out _).mono ?_; rintro e2 w2 ⟨rfl, hb⟩; have K2 := Lib.hid (K1.out.call hb); have B2 := Lib.hid (B1.out.trans (hb.mono B1.out.size)); have hl2 := K2.out.lt; clear hb; have a20 := K2.out.cell 0; have f20 := K2.out.froz 0; have a21 := K2.out.cell 1; have f21 := K2.out.froz 1; simp at a20 a21))
  exact bodyPost_ret (results_agg_tmp Tryz.results214 _ _ _ _ rfl (run_loadVar_row _ _ _ _ _ _ _ (blk_set2 K2.out _ _) Tryz.underlying95 rfl (by kernel_rfl))) rfl ⟨rfl, (B2.out.setCell (Nat.le_refl _) _).setCell (Nat.le_refl _) _⟩
set_option maxRecDepth 100000 in
theorem parse_value (s p q : ByteArray) {mx : Int} (hs : s.size ≤ 1000000) (hp : p.size ≤ 1000000) (hq : q.size ≤ 1000000) (hc : Lib.cut s.data.toList [58] = (p.data.toList, q.data.toList, true)) (htok : tokL p.data.toList = true) (hval : valL q.data.toList = false) (w : World) (hm : w.cell? ⟨0, 0, none⟩ = some (.int .i64 mx)) :
    Calls Tryz.prog 214 #[.string s] w fun e w' => e = .returned (.tuple #[.agg #[.string ⟨#[]⟩, .string ⟨#[]⟩], .int .i64 7]) ∧ Below w.heap.size w w' := by
  have HC := Lib.hid (fun (W : World) hW => cut_any s W (mx := mx) hW hs hc)
  have HM : Hid ((w.alloc (.cells #[.string ⟨#[]⟩, .string ⟨#[]⟩] 95)).cell? ⟨0, 0, none⟩ = some (.int .i64 mx)) := mx_below hm ((Below.refl _ _).alloc (Nat.le_refl _) _)
  have htk := fun W => token_any p (by omega) W
  rw [htok] at htk
  have HT := Lib.hid htk
  have hvl := fun W => value_any q (by omega) W
  rw [hval] at hvl
  have HV := Lib.hid hvl
  clear hc hm htk htok hvl hval
  go_enter Tryz.func214, Tryz.ntmps214
  go_wp2_with (first | (go_at_call 248; refine (HC.out _ HM.out).mono ?_; rintro e1 w1 ⟨rfl, hb⟩; have K1 := Lib.hid ((Blk.new w #[.string ⟨#[]⟩, .string ⟨#[]⟩] 95).call hb); have B1 := Lib.hid (below_one hb); have hl1 := K1.out.lt; clear hb; have a10 := K1.out.cell 0; have f10 := K1.out.froz 0; have a11 := K1.out.cell 1; have f11 := K1.out.froz 1; simp at a10 a11) | (go_at_call 114; refine (HT.out _).mono ?_; rintro e2 w2 ⟨rfl, hb⟩; have K2 := Lib.hid (K1.out.call hb); have B2 := Lib.hid (B1.out.trans (hb.mono B1.out.size)); have hl2 := K2.out.lt; clear hb; have a20 := K2.out.cell 0; have f20 := K2.out.froz 0; have a21 := K2.out.cell 1; have f21 := K2.out.froz 1; simp at a20 a21) | (go_at_call 115; refine (HV.out _).mono ?_; rintro e3 w3 ⟨rfl, hb⟩; have K3 := Lib.hid (K2.out.call hb); have B3 := Lib.hid (B2.out.trans (hb.mono B2.out.size)); have hl3 := K3.out.lt; clear hb; have a30 := K3.out.cell 0; have f30 := K3.out.froz 0; have a31 := K3.out.cell 1; have f31 := K3.out.froz 1; simp at a30 a31))
  exact bodyPost_ret (results_agg_tmp Tryz.results214 _ _ _ _ rfl (run_loadVar_row _ _ _ _ _ _ _ (blk_set2 K3.out _ _) Tryz.underlying95 rfl (by kernel_rfl))) rfl ⟨rfl, (B3.out.setCell (Nat.le_refl _) _).setCell (Nat.le_refl _) _⟩
set_option maxRecDepth 100000 in
theorem parse_ok (s p q : ByteArray) {mx : Int} (hs : s.size ≤ 1000000) (hp : p.size ≤ 1000000) (hq : q.size ≤ 1000000) (hc : Lib.cut s.data.toList [58] = (p.data.toList, q.data.toList, true)) (htok : tokL p.data.toList = true) (hval : valL q.data.toList = true) (w : World) (hm : w.cell? ⟨0, 0, none⟩ = some (.int .i64 mx)) :
    Calls Tryz.prog 214 #[.string s] w fun e w' => e = .returned (.tuple #[.agg #[.string p, .string (trimB q)], .int .i64 0]) ∧ Below w.heap.size w w' := by
  have HC := Lib.hid (fun (W : World) hW => cut_any s W (mx := mx) hW hs hc)
  have HM : Hid ((w.alloc (.cells #[.string ⟨#[]⟩, .string ⟨#[]⟩] 95)).cell? ⟨0, 0, none⟩ = some (.int .i64 mx)) := mx_below hm ((Below.refl _ _).alloc (Nat.le_refl _) _)
  have htk := fun W => token_any p (by omega) W
  rw [htok] at htk
  have HT := Lib.hid htk
  have hvl := fun W => value_any q (by omega) W
  rw [hval] at hvl
  have HV := Lib.hid hvl
  have HR := Lib.hid (fun W => trim_any q (by omega) W)
  obtain ⟨R, hR⟩ : ∃ R, R = trimB q := ⟨_, rfl⟩
  rw [← hR] at HR ⊢
  clear hc hm htk htok hvl hval hR
  go_enter Tryz.func214, Tryz.ntmps214
  go_wp2_with (first | (go_at_call 248; refine (HC.out _ HM.out).mono ?_; rintro e1 w1 ⟨rfl, hb⟩; have K1 := Lib.hid ((Blk.new w #[.string ⟨#[]⟩, .string ⟨#[]⟩] 95).call hb); have B1 := Lib.hid (below_one hb); have hl1 := K1.out.lt; clear hb; have a10 := K1.out.cell 0; have f10 := K1.out.froz 0; have a11 := K1.out.cell 1; have f11 := K1.out.froz 1; simp at a10 a11) | (go_at_call 114; refine (HT.out _).mono ?_; rintro e2 w2 ⟨rfl, hb⟩; have K2 := Lib.hid (K1.out.call hb); have B2 := Lib.hid (B1.out.trans (hb.mono B1.out.size)); have hl2 := K2.out.lt; clear hb; have a20 := K2.out.cell 0; have f20 := K2.out.froz 0; have a21 := K2.out.cell 1; have f21 := K2.out.froz 1; simp at a20 a21) | (go_at_call 115; refine (HV.out _).mono ?_; rintro e3 w3 ⟨rfl, hb⟩; have K3 := Lib.hid (K2.out.call hb); have B3 := Lib.hid (B2.out.trans (hb.mono B2.out.size)); have hl3 := K3.out.lt; clear hb; have a30 := K3.out.cell 0; have f30 := K3.out.froz 0; have a31 := K3.out.cell 1; have f31 := K3.out.froz 1; simp at a30 a31) | (go_at_call 116; refine (HR.out _).mono ?_; rintro e4 w4 ⟨rfl, rfl⟩))
  exact bodyPost_ret (results_agg_tmp Tryz.results214 _ _ _ _ rfl (run_loadVar_row _ _ _ _ _ _ _ (blk_set2 K3.out _ _) Tryz.underlying95 rfl (by kernel_rfl))) rfl ⟨rfl, (B3.out.setCell (Nat.le_refl _) _).setCell (Nat.le_refl _) _⟩
theorem fparse_any (s : ByteArray) (hs : s.size ≤ 1000000) {mx : Int} (w : World) (hm : w.cell? ⟨0, 0, none⟩ = some (.int .i64 mx)) :
    Calls Tryz.prog 214 #[.string s] w fun e w' => e = .returned (.tuple #[.agg #[.string (fparse s).1.1, .string (fparse s).1.2], .int .i64 (fparse s).2]) ∧ Below w.heap.size w w' := by
  have hz : s.data.toList.length = s.size := by simp
  have hc := cut_colon s.data.toList
  unfold fparse
  by_cases h1 : (preL s.data.toList).length = s.size
  · rw [if_pos (by rw [hz]; exact h1)] at hc
    rw [if_pos h1]
    exact parse_none s s ⟨#[]⟩ hs hs (by decide) hc w hm
  · rw [if_neg (by rw [hz]; exact h1)] at hc
    rw [if_neg h1]
    have hp := preL_size s
    have hq := post_size s ((preL s.data.toList).length + 1)
    cases ht : tokL (preL s.data.toList)
    · exact parse_name s ⟨(preL s.data.toList).toArray⟩ ⟨(s.data.toList.drop ((preL s.data.toList).length + 1)).toArray⟩ hs (by omega) (by omega) hc ht w hm
    · cases hv : valL (s.data.toList.drop ((preL s.data.toList).length + 1))
      · exact parse_value s ⟨(preL s.data.toList).toArray⟩ ⟨(s.data.toList.drop ((preL s.data.toList).length + 1)).toArray⟩ hs (by omega) (by omega) hc ht hv w hm
      · exact parse_ok s ⟨(preL s.data.toList).toArray⟩ ⟨(s.data.toList.drop ((preL s.data.toList).length + 1)).toArray⟩ hs (by omega) (by omega) hc ht hv w hm
end Go.Proofs.YtmoofcmmpemdcaaGreatDoor

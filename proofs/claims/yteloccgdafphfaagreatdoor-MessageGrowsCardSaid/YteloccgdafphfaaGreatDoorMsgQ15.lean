/- Texts packed for one claim, 15 of 47: HeadP HParse. -/
import Derived.Test.YteloccgdafphfaaGreatDoorMsgQ13
import Derived.Test.YteloccgdafphfaaGreatDoorMsgQ14
import Derived.Test.YteloccgdafphfaaGreatDoorMsgQ2
import Derived.Test.YteloccgdafphfaaGreatDoorMsgQ5
set_option linter.unusedSimpArgs false
set_option linter.unusedVariables false
-- HeadP
namespace Go.Proofs.YteloccgdafphfaaGreatDoor
open Go.RowKit
/-- A head. -/
structure Hd where
  m : ByteArray
  t : ByteArray
  k : Int
  n : Int
  r : ByteArray
  fs : List Fd
def hd0 : Hd := ⟨⟨#[]⟩, ⟨#[]⟩, 0, 0, ⟨#[]⟩, []⟩
/-- A head's six values, its fields' slice at hand. -/
def Hd.row (h : Hd) (f : Value) : Array Value := #[.string h.m, .string h.t, .int .i64 h.k, .int .i64 h.n, .string h.r, f]
def nilS : Value := .slice none 0 0
/-- What a first line is. -/
def firstP (kind : Int) (s : ByteArray) : Hd × Int :=
  if kind = 1 then (⟨(reqRes s).1.1, (reqRes s).1.2.1, (reqRes s).1.2.2, 0, ⟨#[]⟩, []⟩, (reqRes s).2) else (⟨⟨#[]⟩, ⟨#[]⟩, (statRes s).1.1, (statRes s).1.2.1, (statRes s).1.2.2, []⟩, (statRes s).2)
theorem firstP_fs (kind : Int) (s : ByteArray) : (firstP kind s).1.fs = [] := by unfold firstP; split <;> rfl
/-- What Parse answers. -/
def headP (kind fields fold : Int) (l : List ByteArray) : Hd × Int :=
  if kind ≠ 1 ∧ kind ≠ 2 then (hd0, 1) else match l with
  | [] => (hd0, 2)
  | s :: rest => if (firstP kind s).2 ≠ 0 then (hd0, (firstP kind s).2) else if fields < (rest.length : Int) then (hd0, 4)
    else if (allF fold rest).2 ≠ 0 then (hd0, (allF fold rest).2) else ({ (firstP kind s).1 with fs := (allF fold rest).1 }, 0)
/-- A slice that is none longer than it may be. -/
def CapOk : Value → Prop
  | .slice _ n c => n ≤ c
  | _ => True
theorem Strs.tail {w : World} {b off m c : Nat} {s : ByteArray} {rest : List ByteArray} (h : Strs w (.slice (some ⟨b, off, none⟩) (m + 1) c) (s :: rest)) : m = rest.length ∧ w.cell? ⟨b, off, none⟩ = some (.string s) ∧ (∀ c', Strs w (.slice (some ⟨b, off + 1, none⟩) m c') rest) ∧ (m = 0 → ∀ p c', Strs w (.slice p 0 c') rest) := by
  obtain ⟨p, c', hv, hc⟩ := h
  have hm : m = rest.length := by
    injection hv with _ h2 _
    simpa using h2
  injection hv with hp _ _
  refine ⟨hm, ?_, fun c2 => ⟨_, c2, by rw [hm], fun i hi => ?_⟩, fun h0 p c2 => ?_⟩
  · obtain ⟨b', off', hp', h1⟩ := hc 0 (by simp)
    rw [← hp] at hp'
    cases hp'
    exact h1
  · obtain ⟨b', off', hp', h1⟩ := hc (i + 1) (by simpa using hi)
    rw [← hp] at hp'
    cases hp'
    exact ⟨b, off + 1, rfl, by rw [Nat.add_assoc, Nat.add_comm 1 i]; exact h1⟩
  · have : rest = [] := List.eq_nil_of_length_eq_zero (by omega)
    subst this
    exact Strs.nil _ _ _
set_option maxRecDepth 100000 in
theorem first_any (kind : Int) (hk : kind = 1 ∨ kind = 2) (s : ByteArray) (hs : s.size ≤ 100000) {mx : Int} (w : World) (hm : w.cell? ⟨0, 0, none⟩ = some (.int .i64 mx)) :
    Calls Tryz.prog 108 #[.int .i64 kind, .string s] w fun e w' => e = .returned (.tuple #[.agg ((firstP kind s).1.row nilS), .int .i64 (firstP kind s).2]) ∧ Below w.heap.size w w' := by
  have HM : Hid ((w.alloc (.cells #[.string ⟨#[]⟩, .string ⟨#[]⟩, .int .i64 0, .int .i64 0, .string ⟨#[]⟩, .slice none 0 0] 44)).cell? ⟨0, 0, none⟩ = some (.int .i64 mx)) := mx_below hm ((Below.refl _ _).alloc (Nat.le_refl _) _)
  rcases hk with rfl | rfl
  · obtain ⟨a, ha⟩ : ∃ a, a = firstP 1 s := ⟨_, rfl⟩
    have HR := Lib.hid (fun (W : World) (hW : W.cell? ⟨0, 0, none⟩ = some (.int .i64 mx)) => request_any s hs (m := a.1.m) (t := a.1.t) (k := a.1.k) (e := a.2) (by rw [ha]; rfl) W hW)
    have HA : Hid ((firstP 1 s).1.row nilS = #[.string a.1.m, .string a.1.t, .int .i64 a.1.k, .int .i64 0, .string ⟨#[]⟩, .slice none 0 0] ∧ (firstP 1 s).2 = a.2) := by
      show _ ∧ _
      rw [ha]
      exact ⟨rfl, rfl⟩
    clear ha hm
    go_enter Tryz.func108, Tryz.ntmps108
    go_wp2_with (go_at_call 138; refine (HR.out _ HM.out).mono ?_; rintro e1 w1 ⟨rfl, hb⟩; have K1 := Lib.hid ((Blk.new w #[.string ⟨#[]⟩, .string ⟨#[]⟩, .int .i64 0, .int .i64 0, .string ⟨#[]⟩, .slice none 0 0] 44).call hb); have B1 := Lib.hid (below_one hb); clear hb; have a0 := K1.out.cell 0; have f0 := K1.out.froz 0; have a1 := K1.out.cell 1; have f1 := K1.out.froz 1; have a2 := K1.out.cell 2; have f2 := K1.out.froz 2; have a3 := K1.out.cell 3; have f3 := K1.out.froz 3; have a4 := K1.out.cell 4; have f4 := K1.out.froz 4; have a5 := K1.out.cell 5; have f5 := K1.out.froz 5; simp at a0 a1 a2 a3 a4 a5)
    rw [HA.out.1, HA.out.2]
    exact bodyPost_ret (results_agg_tmp Tryz.results108 _ _ _ _ rfl (run_loadVar_row _ _ _ _ _ _ _ (blk_set6 K1.out _ _ _ _ _ _) Tryz.underlying44 rfl (by kernel_rfl))) rfl ⟨rfl, below_set6 B1.out (Nat.le_refl _) _ _ _ _ _ _⟩
  · obtain ⟨a, ha⟩ : ∃ a, a = firstP 2 s := ⟨_, rfl⟩
    have HR := Lib.hid (fun (W : World) => status_any s hs (k := a.1.k) (n := a.1.n) (r := a.1.r) (e := a.2) (by rw [ha]; rfl) W)
    have HA : Hid ((firstP 2 s).1.row nilS = #[.string ⟨#[]⟩, .string ⟨#[]⟩, .int .i64 a.1.k, .int .i64 a.1.n, .string a.1.r, .slice none 0 0] ∧ (firstP 2 s).2 = a.2) := by
      show _ ∧ _
      rw [ha]
      exact ⟨rfl, rfl⟩
    clear ha hm
    go_enter Tryz.func108, Tryz.ntmps108
    go_wp2_with (go_at_call 139; refine (HR.out _).mono ?_; rintro e1 w1 ⟨rfl, hb⟩; have K1 := Lib.hid ((Blk.new w #[.string ⟨#[]⟩, .string ⟨#[]⟩, .int .i64 0, .int .i64 0, .string ⟨#[]⟩, .slice none 0 0] 44).call hb); have B1 := Lib.hid (below_one hb); clear hb; have a0 := K1.out.cell 0; have f0 := K1.out.froz 0; have a1 := K1.out.cell 1; have f1 := K1.out.froz 1; have a2 := K1.out.cell 2; have f2 := K1.out.froz 2; have a3 := K1.out.cell 3; have f3 := K1.out.froz 3; have a4 := K1.out.cell 4; have f4 := K1.out.froz 4; have a5 := K1.out.cell 5; have f5 := K1.out.froz 5; simp at a0 a1 a2 a3 a4 a5)
    rw [HA.out.1, HA.out.2]
    exact bodyPost_ret (results_agg_tmp Tryz.results108 _ _ _ _ rfl (run_loadVar_row _ _ _ _ _ _ _ (blk_set6 K1.out _ _ _ _ _ _) Tryz.underlying44 rfl (by kernel_rfl))) rfl ⟨rfl, below_set6 B1.out (Nat.le_refl _) _ _ _ _ _ _⟩
end Go.Proofs.YteloccgdafphfaaGreatDoor
-- HParse
namespace Go.Proofs.YteloccgdafphfaaGreatDoor
open Go.RowKit
theorem blk_al2 (w : World) (L Z : Array Value) (t t' : TypeId) : Blk ((w.alloc (.cells L t)).alloc (.cells Z t')) (w.heap.size + 1) Z t' := Blk.new' (by simp)
theorem below_al2 (w : World) (o o' : Obj) : Below w.heap.size w ((w.alloc o).alloc o') := ((Below.refl _ _).alloc (Nat.le_refl _) _).alloc (by simp) _
set_option maxRecDepth 100000 in
theorem hparse_arg (kind a fields c d fold : Int) (h1 : kind ≠ 1) (h2 : kind ≠ 2) (v : Value) (w : World) :
    Calls Tryz.prog 90 #[.int .i64 kind, .agg #[.int .i64 a, .int .i64 fields, .int .i64 c, .int .i64 d, .int .i64 fold], v] w fun e w' => e = .returned (.tuple #[.agg (hd0.row nilS), .int .i64 1]) ∧ Below w.heap.size w w' := by
  have e1 : (kind != 1) = true := by simpa using h1
  have e2 : (kind != 2) = true := by simpa using h2
  have HB := Lib.hid (below_al2 w (.cells #[.int .i64 a, .int .i64 fields, .int .i64 c, .int .i64 d, .int .i64 fold] 24) (.cells #[.string ⟨#[]⟩, .string ⟨#[]⟩, .int .i64 0, .int .i64 0, .string ⟨#[]⟩, .slice none 0 0] 44))
  have HZ := Lib.hid (blk_al2 w #[.int .i64 a, .int .i64 fields, .int .i64 c, .int .i64 d, .int .i64 fold] #[.string ⟨#[]⟩, .string ⟨#[]⟩, .int .i64 0, .int .i64 0, .string ⟨#[]⟩, .slice none 0 0] 24 44)
  clear h1 h2
  go_enter Tryz.func90, Tryz.ntmps90
  go_wp2_with fail
  exact bodyPost_ret (results_agg_tmp Tryz.results90 _ _ _ _ rfl (run_loadVar_row _ _ _ _ _ _ _ HZ.out Tryz.underlying44 rfl (by kernel_rfl))) rfl ⟨rfl, HB.out⟩
set_option maxRecDepth 100000 in
theorem hparse_end (kind a fields c d fold : Int) (h1 : kind = 1 ∨ kind = 2) (p : Option Addr) (cc : Nat) (w : World) :
    Calls Tryz.prog 90 #[.int .i64 kind, .agg #[.int .i64 a, .int .i64 fields, .int .i64 c, .int .i64 d, .int .i64 fold], .slice p 0 cc] w fun e w' => e = .returned (.tuple #[.agg (hd0.row nilS), .int .i64 2]) ∧ Below w.heap.size w w' := by
  have HB := Lib.hid (below_al2 w (.cells #[.int .i64 a, .int .i64 fields, .int .i64 c, .int .i64 d, .int .i64 fold] 24) (.cells #[.string ⟨#[]⟩, .string ⟨#[]⟩, .int .i64 0, .int .i64 0, .string ⟨#[]⟩, .slice none 0 0] 44))
  have HZ := Lib.hid (blk_al2 w #[.int .i64 a, .int .i64 fields, .int .i64 c, .int .i64 d, .int .i64 fold] #[.string ⟨#[]⟩, .string ⟨#[]⟩, .int .i64 0, .int .i64 0, .string ⟨#[]⟩, .slice none 0 0] 24 44)
  rcases h1 with rfl | rfl
  all_goals
    go_enter Tryz.func90, Tryz.ntmps90
    go_wp2_with fail
    exact bodyPost_ret (results_agg_tmp Tryz.results90 _ _ _ _ rfl (run_loadVar_row _ _ _ _ _ _ _ HZ.out Tryz.underlying44 rfl (by kernel_rfl))) rfl ⟨rfl, HB.out⟩
/-- What holds behind the first line: the limits' block, the result's, the head's. -/
structure HpS (w : World) (L R : Array Value) (g : Nat) (v : World) : Prop where
  l : Blk v w.heap.size L 24
  z : Blk v (w.heap.size + 1) #[.string ⟨#[]⟩, .string ⟨#[]⟩, .int .i64 0, .int .i64 0, .string ⟨#[]⟩, .slice none 0 0] 44
  h : Blk v g R 44
  u : Below w.heap.size w v
  lt : w.heap.size + 1 < g
theorem HpS.below {w v v' : World} {L R : Array Value} {g : Nat} (h : HpS w L R g v) (b : Below v.heap.size v v') : HpS w L R g v' := ⟨h.l.call b, h.z.call b, h.h.call b, h.u.trans (b.mono h.u.size), h.lt⟩
set_option maxRecDepth 100000 in
set_option maxHeartbeats 4000000 in
theorem hparse_go1 (a fields c d fold : Int) (hfi : -9223372036854775808 ≤ fields ∧ fields ≤ 9223372036854775807) (b off m cc : Nat) (s : ByteArray) (rest : List ByteArray) (w : World) {mx : Int} (hm : w.cell? ⟨0, 0, none⟩ = some (.int .i64 mx)) (hS : Strs w (.slice (some ⟨b, off, none⟩) (m + 1) cc) (s :: rest)) (hcap : m + 1 ≤ cc) (hn : m ≤ 100000) (ht : tot (s :: rest) ≤ 100000) :
    Calls Tryz.prog 90 #[.int .i64 1, .agg #[.int .i64 a, .int .i64 fields, .int .i64 c, .int .i64 d, .int .i64 fold], .slice (some ⟨b, off, none⟩) (m + 1) cc] w fun e w' => ∃ f, e = .returned (.tuple #[.agg ((headP 1 fields fold (s :: rest)).1.row f), .int .i64 (headP 1 fields fold (s :: rest)).2]) ∧ OwnF w' w.heap.size f (headP 1 fields fold (s :: rest)).1.fs ∧ Below w.heap.size w w' := by
  obtain ⟨hmr, hs0, htl, htl0⟩ := hS.tail
  have hts : s.size ≤ 100000 := by rw [tot_cons] at ht; omega
  have htr : tot rest ≤ 100000 := by rw [tot_cons] at ht; omega
  obtain ⟨A, hA⟩ : ∃ A, firstP 1 s = A := ⟨_, rfl⟩
  have hAfs : A.1.fs = [] := by rw [← hA]; exact firstP_fs _ _
  have hF := fun (W : World) (hW : W.cell? ⟨0, 0, none⟩ = some (.int .i64 mx)) => first_any 1 (by decide) s hts W hW
  rw [hA] at hF
  have hP : headP 1 fields fold (s :: rest) = if A.2 ≠ 0 then (hd0, A.2) else if fields < (rest.length : Int) then (hd0, 4) else if (allF fold rest).2 ≠ 0 then (hd0, (allF fold rest).2) else ({ A.1 with fs := (allF fold rest).1 }, 0) := by
    unfold headP
    rw [if_neg (by decide)]
    show (if (firstP 1 s).2 ≠ 0 then (hd0, (firstP 1 s).2) else _) = _
    rw [hA]
  obtain ⟨⟨m1, t1, k1, n1, r1, fs1⟩, e1⟩ := A
  have hAfs : fs1 = [] := hAfs
  subst hAfs
  simp only [Hd.row, nilS] at hF
  have HF := Lib.hid hF
  have HP := Lib.hid hP
  have HM : Hid (((w.alloc (.cells #[.int .i64 a, .int .i64 fields, .int .i64 c, .int .i64 d, .int .i64 fold] 24)).alloc (.cells #[.string ⟨#[]⟩, .string ⟨#[]⟩, .int .i64 0, .int .i64 0, .string ⟨#[]⟩, .slice none 0 0] 44)).cell? ⟨0, 0, none⟩ = some (.int .i64 mx)) := mx_below hm (below_al2 w _ _)
  have HM0 := Lib.hid hm
  have HTL := Lib.hid (And.intro htl htl0)
  have HTR := Lib.hid htr
  have HMR := Lib.hid hmr
  have hwm : wrap64 (m : Int) = m := IntWalk.wrap64_in _ ⟨Int.le_trans (by decide) (Int.natCast_nonneg m), Int.le_trans (Int.ofNat_le.2 hn) (by decide)⟩
  have hs1 := fun W (hW : Below w.heap.size w W) => (bcell hW b off (World.block_lt_of_cell? _ _ hs0)).trans hs0
  have hs2 := hs1 _ (below_al2 w (.cells #[.int .i64 a, .int .i64 fields, .int .i64 c, .int .i64 d, .int .i64 fold] 24) (.cells #[.string ⟨#[]⟩, .string ⟨#[]⟩, .int .i64 0, .int .i64 0, .string ⟨#[]⟩, .slice none 0 0] 44))
  have hi0 : (0 : Int) < (m : Int) + 1 := by omega
  have hne0 : ((m : Int) + 1 == 0) = false := by rw [beq_eq_false_iff_ne]; omega
  clear hA hF hP hm hS htl htl0 htr ht hts hs0 hs1 hmr
  by_cases he1 : e1 = 0
  rotate_left
  · have he2 : (e1 != 0) = true := by simpa using he1
    have hR : headP 1 fields fold (s :: rest) = (hd0, e1) := by rw [HP.out, if_pos he1]
    have HR := Lib.hid hR
    clear hR he1
    go_enter Tryz.func90, Tryz.ntmps90
    go_wp2_with (go_at_call 108; refine (HF.out _ HM.out).mono ?_; rintro e1 w2 ⟨rfl, hb⟩; have KL := Lib.hid (((Blk.new w #[.int .i64 a, .int .i64 fields, .int .i64 c, .int .i64 d, .int .i64 fold] 24).alloc (.cells #[.string ⟨#[]⟩, .string ⟨#[]⟩, .int .i64 0, .int .i64 0, .string ⟨#[]⟩, .slice none 0 0] 44)).call hb); have KZ := Lib.hid ((blk_al2 w #[.int .i64 a, .int .i64 fields, .int .i64 c, .int .i64 d, .int .i64 fold] #[.string ⟨#[]⟩, .string ⟨#[]⟩, .int .i64 0, .int .i64 0, .string ⟨#[]⟩, .slice none 0 0] 24 44).call hb); have B2 := Lib.hid (below_two hb); have hz2 := hb.size; clear hb; have KL3 := Lib.hid (KL.out.alloc (.cells #[.string m1, .string t1, .int .i64 k1, .int .i64 n1, .string r1, .slice none 0 0] 44)); have KZ3 := Lib.hid (KZ.out.alloc (.cells #[.string m1, .string t1, .int .i64 k1, .int .i64 n1, .string r1, .slice none 0 0] 44)); have z0 := KZ3.out.cell 0; have zf0 := KZ3.out.froz 0; have z1 := KZ3.out.cell 1; have zf1 := KZ3.out.froz 1; have z2 := KZ3.out.cell 2; have zf2 := KZ3.out.froz 2; have z3 := KZ3.out.cell 3; have zf3 := KZ3.out.froz 3; have z4 := KZ3.out.cell 4; have zf4 := KZ3.out.froz 4; have z5 := KZ3.out.cell 5; have zf5 := KZ3.out.froz 5; simp at z0 z1 z2 z3 z4 z5)
    exact bodyPost_ret (results_agg_tmp Tryz.results90 _ _ _ _ rfl (run_loadVar_row _ _ _ _ _ _ _ (blk_set6 KZ3.out _ _ _ _ _ _) Tryz.underlying44 rfl (by kernel_rfl))) rfl ⟨nilS, by rw [HR.out]; rfl, by rw [HR.out]; exact OwnF.start _ _, below_set6 (B2.out.alloc B2.out.size _) (Nat.le_succ _) _ _ _ _ _ _⟩
  subst he1
  by_cases hlo : fields < (m : Int)
  · have hlo2 : decide (fields < (m : Int)) = true := decide_eq_true hlo
    have hR : headP 1 fields fold (s :: rest) = (hd0, 4) := by rw [HP.out, if_neg (by simp), if_pos (by rw [← HMR.out]; exact hlo)]
    have HR := Lib.hid hR
    clear hR
    go_enter Tryz.func90, Tryz.ntmps90
    go_wp2_with (go_at_call 108; refine (HF.out _ HM.out).mono ?_; rintro e1 w2 ⟨rfl, hb⟩; have KL := Lib.hid (((Blk.new w #[.int .i64 a, .int .i64 fields, .int .i64 c, .int .i64 d, .int .i64 fold] 24).alloc (.cells #[.string ⟨#[]⟩, .string ⟨#[]⟩, .int .i64 0, .int .i64 0, .string ⟨#[]⟩, .slice none 0 0] 44)).call hb); have KZ := Lib.hid ((blk_al2 w #[.int .i64 a, .int .i64 fields, .int .i64 c, .int .i64 d, .int .i64 fold] #[.string ⟨#[]⟩, .string ⟨#[]⟩, .int .i64 0, .int .i64 0, .string ⟨#[]⟩, .slice none 0 0] 24 44).call hb); have B2 := Lib.hid (below_two hb); have hz2 := hb.size; clear hb; have KL3 := Lib.hid (KL.out.alloc (.cells #[.string m1, .string t1, .int .i64 k1, .int .i64 n1, .string r1, .slice none 0 0] 44)); have KZ3 := Lib.hid (KZ.out.alloc (.cells #[.string m1, .string t1, .int .i64 k1, .int .i64 n1, .string r1, .slice none 0 0] 44)); have z0 := KZ3.out.cell 0; have zf0 := KZ3.out.froz 0; have z1 := KZ3.out.cell 1; have zf1 := KZ3.out.froz 1; have z2 := KZ3.out.cell 2; have zf2 := KZ3.out.froz 2; have z3 := KZ3.out.cell 3; have zf3 := KZ3.out.froz 3; have z4 := KZ3.out.cell 4; have zf4 := KZ3.out.froz 4; have z5 := KZ3.out.cell 5; have zf5 := KZ3.out.froz 5; simp at z0 z1 z2 z3 z4 z5; have q0 := KL3.out.cell 0; have qf0 := KL3.out.froz 0; have q1 := KL3.out.cell 1; have qf1 := KL3.out.froz 1; have q2 := KL3.out.cell 2; have qf2 := KL3.out.froz 2; have q3 := KL3.out.cell 3; have qf3 := KL3.out.froz 3; have q4 := KL3.out.cell 4; have qf4 := KL3.out.froz 4; simp at q0 q1 q2 q3 q4)
    exact bodyPost_ret (results_agg_tmp Tryz.results90 _ _ _ _ rfl (run_loadVar_row _ _ _ _ _ _ _ (blk_set6 KZ3.out _ _ _ _ _ _) Tryz.underlying44 rfl (by kernel_rfl))) rfl ⟨nilS, by rw [HR.out]; rfl, by rw [HR.out]; exact OwnF.start _ _, below_set6 (B2.out.alloc B2.out.size _) (Nat.le_succ _) _ _ _ _ _ _⟩
  have hlo2 : decide (fields < (m : Int)) = false := decide_eq_false hlo
  have hR : headP 1 fields fold (s :: rest) = if (allF fold rest).2 ≠ 0 then (hd0, (allF fold rest).2) else (⟨m1, t1, k1, n1, r1, (allF fold rest).1⟩, 0) := by rw [HP.out, if_neg (by simp), if_neg (by rw [← HMR.out]; exact hlo)]
  have HR := Lib.hid hR
  clear hR hlo HP
  obtain ⟨tp, htp⟩ : ∃ tp, tp = (if cc = 1 then some (⟨b, off, none⟩ : Addr) else some ⟨b, off + 1, none⟩) := ⟨_, rfl⟩
  have htS : Strs w (.slice tp m (cc - 1)) rest := by
    by_cases hc1 : cc = 1
    · have : m = 0 := by omega
      subst this
      exact HTL.out.2 rfl _ _
    · rw [htp, if_neg hc1]; exact HTL.out.1 _
  have HTS := Lib.hid htS
  have HTP := Lib.hid htp
  obtain ⟨⟨F, ef⟩, hAF⟩ : ∃ x, allF fold rest = x := ⟨_, rfl⟩
  have HFA := Lib.hid (fun (V : World) (hV : Below w.heap.size w V) => fall_any fold (.slice tp m (cc - 1)) rest V (mx_below HM0.out hV) (htS.below hV) (by have := HMR.out; omega) (by have := HTR.out; omega))
  rw [hAF] at HFA HR
  have HI1 := Lib.hid (show (1 : Int) ≤ (m : Int) + 1 by omega)
  clear htS htp hAF
  go_enter Tryz.func90, Tryz.ntmps90
  go_wp2_with (go_at_call 108; refine (HF.out _ HM.out).mono ?_; rintro e1 w2 ⟨rfl, hb⟩; have KL := Lib.hid (((Blk.new w #[.int .i64 a, .int .i64 fields, .int .i64 c, .int .i64 d, .int .i64 fold] 24).alloc (.cells #[.string ⟨#[]⟩, .string ⟨#[]⟩, .int .i64 0, .int .i64 0, .string ⟨#[]⟩, .slice none 0 0] 44)).call hb); have KZ := Lib.hid ((blk_al2 w #[.int .i64 a, .int .i64 fields, .int .i64 c, .int .i64 d, .int .i64 fold] #[.string ⟨#[]⟩, .string ⟨#[]⟩, .int .i64 0, .int .i64 0, .string ⟨#[]⟩, .slice none 0 0] 24 44).call hb); have B2 := Lib.hid (below_two hb); have hz2 := hb.size; clear hb; have KL3 := Lib.hid (KL.out.alloc (.cells #[.string m1, .string t1, .int .i64 k1, .int .i64 n1, .string r1, .slice none 0 0] 44)); have KZ3 := Lib.hid (KZ.out.alloc (.cells #[.string m1, .string t1, .int .i64 k1, .int .i64 n1, .string r1, .slice none 0 0] 44)); have q0 := KL3.out.cell 0; have qf0 := KL3.out.froz 0; have q1 := KL3.out.cell 1; have qf1 := KL3.out.froz 1; have q2 := KL3.out.cell 2; have qf2 := KL3.out.froz 2; have q3 := KL3.out.cell 3; have qf3 := KL3.out.froz 3; have q4 := KL3.out.cell 4; have qf4 := KL3.out.froz 4; simp at q0 q1 q2 q3 q4)
  refine wp_region_at (S := fun v => Blk v w.heap.size #[.int .i64 a, .int .i64 fields, .int .i64 c, .int .i64 d, .int .i64 fold] 24) (by kernel_rfl) ?_
  intro V0 hV0
  have h0 : Blk V0 w.heap.size #[.int .i64 a, .int .i64 fields, .int .i64 c, .int .i64 d, .int .i64 fold] 24 := by rw [hV0]; exact (KL.out.alloc _).drew
  have HS : Hid (HpS w #[.int .i64 a, .int .i64 fields, .int .i64 c, .int .i64 d, .int .i64 fold] #[.string m1, .string t1, .int .i64 k1, .int .i64 n1, .string r1, .slice none 0 0] w2.heap.size V0) := by
    show HpS _ _ _ _ _
    rw [hV0]
    exact ⟨(KL.out.alloc _).drew, (KZ.out.alloc _).drew, (Blk.new _ _ _).drew, (B2.out.alloc B2.out.size _).drew, by have := hz2; simp at this; omega⟩
  clear hV0 KL KZ B2 hlo2
  refine wpAnyH_take (i := 0) (v := .pointer (some ⟨w.heap.size, 4, none⟩)) rfl (by kernel_rfl) (by kernel_rfl) (by kernel_rfl) (fun _ _ _ h => h) (Or.inl ⟨by kernel_rfl, ?hy1⟩) h0 ?rest1
  case hy1 =>
    intro v hv
    clear hv
    go_simp
  (try simp only [Act.put, List.setIfInBounds_toArray, List.set_cons_zero, List.set_cons_succ])
  refine wpAnyH_take (i := 1) (v := .int .i64 fold) rfl (by kernel_rfl) (by kernel_rfl) (by kernel_rfl) (fun _ _ _ h => h) (Or.inl ⟨by kernel_rfl, ?hy2⟩) h0 ?rest2
  case hy2 =>
    intro v hv
    have q := hv.cell 4
    simp at q
    clear hv
    go_simp
  (try simp only [Act.put, List.setIfInBounds_toArray, List.set_cons_zero, List.set_cons_succ])
  refine wpAnyH_take (i := 2) (v := .slice (some ⟨b, off, none⟩) (m + 1) cc) rfl (by kernel_rfl) (by kernel_rfl) (by kernel_rfl) (fun _ _ _ h => h) (Or.inl ⟨by kernel_rfl, ?hy3⟩) h0 ?rest3
  case hy3 =>
    intro v hv
    clear hv
    go_simp
  (try simp only [Act.put, List.setIfInBounds_toArray, List.set_cons_zero, List.set_cons_succ])
  refine wpAnyH_take (i := 3) (v := .slice tp m (cc - 1)) rfl (by kernel_rfl) (by kernel_rfl) (by kernel_rfl) (fun _ _ _ h => h) (Or.inl ⟨by kernel_rfl, ?hy4⟩) h0 ?rest4
  case hy4 =>
    intro v hv
    clear hv
    go_simp
    rw [if_pos HI1.out, HTP.out]
  (try simp only [Act.put, List.setIfInBounds_toArray, List.set_cons_zero, List.set_cons_succ])
  refine wpAnyH_ready (rs := [4]) (by kernel_rfl) (by simp) ?_
  refine AllReadyH.cons rfl (fun K hK => ?_) AllReadyH.nil
  go_simp
  refine (HFA.out _ HS.out.u).mono ?_
  rintro e V1 ⟨f, rfl, hof, hb1⟩
  obtain ⟨pf, cf, rfl⟩ := own_slice hof
  have HS1 := Lib.hid (HS.out.below hb1)
  have HO1 := Lib.hid hof
  have h1 := h0.call hb1
  have HLT := Lib.hid HS.out.h.lt
  have HLE := Lib.hid HS.out.u.size
  clear hof hb1 h0
  refine hK _ _ h1 (fun _ => ?_)
  clear hK K
  (try simp only [Act.put, List.setIfInBounds_toArray, List.set_cons_zero, List.set_cons_succ])
  refine wpAnyH_take (i := 5) (v := .tuple #[.slice pf F.length cf, .int .i64 ef]) rfl (by kernel_rfl) (by kernel_rfl) (by kernel_rfl) (fun _ _ _ h => h) (Or.inl ⟨by kernel_rfl, ?hy5⟩) h1 ?rest5
  case hy5 =>
    intro v hv
    clear hv
    go_simp
  (try simp only [Act.put, List.setIfInBounds_toArray, List.set_cons_zero, List.set_cons_succ])
  refine wpAnyH_take (i := 6) (v := .slice pf F.length cf) rfl (by kernel_rfl) (by kernel_rfl) (by kernel_rfl) (fun _ _ _ h => h) (Or.inl ⟨by kernel_rfl, ?hy6⟩) h1 ?rest6
  case hy6 =>
    intro v hv
    clear hv
    go_simp
  (try simp only [Act.put, List.setIfInBounds_toArray, List.set_cons_zero, List.set_cons_succ])
  refine wpAnyH_take (i := 7) (v := .int .i64 ef) rfl (by kernel_rfl) (by kernel_rfl) (by kernel_rfl) (fun _ _ _ h => h) (Or.inl ⟨by kernel_rfl, ?hy7⟩) h1 ?rest7
  case hy7 =>
    intro v hv
    clear hv
    go_simp
  (try simp only [Act.put, List.setIfInBounds_toArray, List.set_cons_zero, List.set_cons_succ])
  refine wpAnyH_take (i := 8) (v := .pointer (some ⟨w2.heap.size, 5, none⟩)) rfl (by kernel_rfl) (by kernel_rfl) (by kernel_rfl) (fun _ _ _ h => h) (Or.inl ⟨by kernel_rfl, ?hy8⟩) h1 ?rest8
  case hy8 =>
    intro v hv
    clear hv
    go_simp
  (try simp only [Act.put, List.setIfInBounds_toArray, List.set_cons_zero, List.set_cons_succ])
  refine wpAnyH_ready (rs := [9]) (by kernel_rfl) (by simp) ?_
  refine AllReadyH.cons rfl (fun K hK => ?_) AllReadyH.nil
  have a5 := HS1.out.h.cell 5
  have a5f := HS1.out.h.froz 5
  simp at a5
  have h2 := h1.far (p := ⟨w2.heap.size, 5, none⟩) (Nat.ne_of_lt (Nat.lt_of_succ_lt HS1.out.lt)) (.slice pf F.length cf)
  go_simp
  clear a5 a5f
  refine hK _ _ h2 (fun _ => ?_)
  clear hK K
  (try simp only [Act.put, List.setIfInBounds_toArray, List.set_cons_zero, List.set_cons_succ])
  refine wpAnyH_ready (rs := [10]) (by kernel_rfl) (by simp) ?_
  refine AllReadyH.cons rfl (fun K hK => ?_) AllReadyH.nil
  go_simp
  refine hK _ _ h2 (fun _ => ?_)
  clear hK K
  (try simp only [Act.put, List.setIfInBounds_toArray, List.set_cons_zero, List.set_cons_succ])
  refine wpAnyH_done (by kernel_rfl) ?_ _
  have KH : Blk (V1.setCell ⟨w2.heap.size, 5, none⟩ (.slice pf F.length cf)) w2.heap.size #[.string m1, .string t1, .int .i64 k1, .int .i64 n1, .string r1, .slice pf F.length cf] 44 := by
    have := HS1.out.h.set 5 (.slice pf F.length cf)
    simpa using this
  have KZ2 := HS1.out.z.far (p := ⟨w2.heap.size, 5, none⟩) (Nat.ne_of_lt HS1.out.lt) (.slice pf F.length cf)
  have KO := own_set HO1.out HLT.out 5 (.slice pf F.length cf)
  have KU := HS1.out.u.setCell (p := ⟨w2.heap.size, 5, none⟩) (Nat.le_of_lt (Nat.lt_of_succ_lt HS1.out.lt)) (.slice pf F.length cf)
  have hls := HS1.out.lt
  clear h1 h2 HS HS1 HO1
  generalize V1.setCell ⟨w2.heap.size, 5, none⟩ (.slice pf F.length cf) = V2 at KH KZ2 KO KU ⊢
  have HKH := Lib.hid KH
  have HKZ := Lib.hid KZ2
  have HKO := Lib.hid KO
  have HKU := Lib.hid KU
  have HLS := Lib.hid (Nat.lt_trans hls HLT.out)
  clear KH KZ2 KO KU hls
  have z0 := HKZ.out.cell 0
  have zf0 := HKZ.out.froz 0
  have z1 := HKZ.out.cell 1
  have zf1 := HKZ.out.froz 1
  have z2 := HKZ.out.cell 2
  have zf2 := HKZ.out.froz 2
  have z3 := HKZ.out.cell 3
  have zf3 := HKZ.out.froz 3
  have z4 := HKZ.out.cell 4
  have zf4 := HKZ.out.froz 4
  have z5 := HKZ.out.cell 5
  have zf5 := HKZ.out.froz 5
  simp at z0 z1 z2 z3 z4 z5
  have g0 := HKH.out.cell 0
  have gf0 := HKH.out.froz 0
  have g1 := HKH.out.cell 1
  have gf1 := HKH.out.froz 1
  have g2 := HKH.out.cell 2
  have gf2 := HKH.out.froz 2
  have g3 := HKH.out.cell 3
  have gf3 := HKH.out.froz 3
  have g4 := HKH.out.cell 4
  have gf4 := HKH.out.froz 4
  have g5 := HKH.out.cell 5
  have gf5 := HKH.out.froz 5
  simp at g0 g1 g2 g3 g4 g5
  by_cases hef : ef = 0
  · subst hef
    go_wp2_with fail
    exact bodyPost_ret (results_agg_tmp Tryz.results90 _ _ _ _ rfl (run_loadVar_row _ _ _ _ _ _ _ (blk_set6 HKZ.out _ _ _ _ _ _) Tryz.underlying44 rfl (by kernel_rfl))) rfl ⟨.slice pf F.length cf, by rw [HR.out]; rfl, by rw [HR.out]; exact OwnF.lower (own_set6 HKO.out HLS.out _ _ _ _ _ _) HLE.out, below_set6 HKU.out (Nat.le_succ _) _ _ _ _ _ _⟩
  · have hef2 : (ef != 0) = true := by simpa using hef
    have HR2 : headP 1 fields fold (s :: rest) = (hd0, ef) := by rw [HR.out]; exact if_pos hef
    clear hef
    go_wp2_with fail
    exact bodyPost_ret (results_agg_tmp Tryz.results90 _ _ _ _ rfl (run_loadVar_row _ _ _ _ _ _ _ (blk_set6 HKZ.out _ _ _ _ _ _) Tryz.underlying44 rfl (by kernel_rfl))) rfl ⟨nilS, by rw [HR2]; rfl, by rw [HR2]; exact OwnF.start _ _, below_set6 HKU.out (Nat.le_succ _) _ _ _ _ _ _⟩
set_option maxRecDepth 100000 in
set_option maxHeartbeats 4000000 in
theorem hparse_go2 (a fields c d fold : Int) (hfi : -9223372036854775808 ≤ fields ∧ fields ≤ 9223372036854775807) (b off m cc : Nat) (s : ByteArray) (rest : List ByteArray) (w : World) {mx : Int} (hm : w.cell? ⟨0, 0, none⟩ = some (.int .i64 mx)) (hS : Strs w (.slice (some ⟨b, off, none⟩) (m + 1) cc) (s :: rest)) (hcap : m + 1 ≤ cc) (hn : m ≤ 100000) (ht : tot (s :: rest) ≤ 100000) :
    Calls Tryz.prog 90 #[.int .i64 2, .agg #[.int .i64 a, .int .i64 fields, .int .i64 c, .int .i64 d, .int .i64 fold], .slice (some ⟨b, off, none⟩) (m + 1) cc] w fun e w' => ∃ f, e = .returned (.tuple #[.agg ((headP 2 fields fold (s :: rest)).1.row f), .int .i64 (headP 2 fields fold (s :: rest)).2]) ∧ OwnF w' w.heap.size f (headP 2 fields fold (s :: rest)).1.fs ∧ Below w.heap.size w w' := by
  obtain ⟨hmr, hs0, htl, htl0⟩ := hS.tail
  have hts : s.size ≤ 100000 := by rw [tot_cons] at ht; omega
  have htr : tot rest ≤ 100000 := by rw [tot_cons] at ht; omega
  obtain ⟨A, hA⟩ : ∃ A, firstP 2 s = A := ⟨_, rfl⟩
  have hAfs : A.1.fs = [] := by rw [← hA]; exact firstP_fs _ _
  have hF := fun (W : World) (hW : W.cell? ⟨0, 0, none⟩ = some (.int .i64 mx)) => first_any 2 (by decide) s hts W hW
  rw [hA] at hF
  have hP : headP 2 fields fold (s :: rest) = if A.2 ≠ 0 then (hd0, A.2) else if fields < (rest.length : Int) then (hd0, 4) else if (allF fold rest).2 ≠ 0 then (hd0, (allF fold rest).2) else ({ A.1 with fs := (allF fold rest).1 }, 0) := by
    unfold headP
    rw [if_neg (by decide)]
    show (if (firstP 2 s).2 ≠ 0 then (hd0, (firstP 2 s).2) else _) = _
    rw [hA]
  obtain ⟨⟨m1, t1, k1, n1, r1, fs1⟩, e1⟩ := A
  have hAfs : fs1 = [] := hAfs
  subst hAfs
  simp only [Hd.row, nilS] at hF
  have HF := Lib.hid hF
  have HP := Lib.hid hP
  have HM : Hid (((w.alloc (.cells #[.int .i64 a, .int .i64 fields, .int .i64 c, .int .i64 d, .int .i64 fold] 24)).alloc (.cells #[.string ⟨#[]⟩, .string ⟨#[]⟩, .int .i64 0, .int .i64 0, .string ⟨#[]⟩, .slice none 0 0] 44)).cell? ⟨0, 0, none⟩ = some (.int .i64 mx)) := mx_below hm (below_al2 w _ _)
  have HM0 := Lib.hid hm
  have HTL := Lib.hid (And.intro htl htl0)
  have HTR := Lib.hid htr
  have HMR := Lib.hid hmr
  have hwm : wrap64 (m : Int) = m := IntWalk.wrap64_in _ ⟨Int.le_trans (by decide) (Int.natCast_nonneg m), Int.le_trans (Int.ofNat_le.2 hn) (by decide)⟩
  have hs1 := fun W (hW : Below w.heap.size w W) => (bcell hW b off (World.block_lt_of_cell? _ _ hs0)).trans hs0
  have hs2 := hs1 _ (below_al2 w (.cells #[.int .i64 a, .int .i64 fields, .int .i64 c, .int .i64 d, .int .i64 fold] 24) (.cells #[.string ⟨#[]⟩, .string ⟨#[]⟩, .int .i64 0, .int .i64 0, .string ⟨#[]⟩, .slice none 0 0] 44))
  have hi0 : (0 : Int) < (m : Int) + 1 := by omega
  have hne0 : ((m : Int) + 1 == 0) = false := by rw [beq_eq_false_iff_ne]; omega
  clear hA hF hP hm hS htl htl0 htr ht hts hs0 hs1 hmr
  by_cases he1 : e1 = 0
  rotate_left
  · have he2 : (e1 != 0) = true := by simpa using he1
    have hR : headP 2 fields fold (s :: rest) = (hd0, e1) := by rw [HP.out, if_pos he1]
    have HR := Lib.hid hR
    clear hR he1
    go_enter Tryz.func90, Tryz.ntmps90
    go_wp2_with (go_at_call 108; refine (HF.out _ HM.out).mono ?_; rintro e1 w2 ⟨rfl, hb⟩; have KL := Lib.hid (((Blk.new w #[.int .i64 a, .int .i64 fields, .int .i64 c, .int .i64 d, .int .i64 fold] 24).alloc (.cells #[.string ⟨#[]⟩, .string ⟨#[]⟩, .int .i64 0, .int .i64 0, .string ⟨#[]⟩, .slice none 0 0] 44)).call hb); have KZ := Lib.hid ((blk_al2 w #[.int .i64 a, .int .i64 fields, .int .i64 c, .int .i64 d, .int .i64 fold] #[.string ⟨#[]⟩, .string ⟨#[]⟩, .int .i64 0, .int .i64 0, .string ⟨#[]⟩, .slice none 0 0] 24 44).call hb); have B2 := Lib.hid (below_two hb); have hz2 := hb.size; clear hb; have KL3 := Lib.hid (KL.out.alloc (.cells #[.string m1, .string t1, .int .i64 k1, .int .i64 n1, .string r1, .slice none 0 0] 44)); have KZ3 := Lib.hid (KZ.out.alloc (.cells #[.string m1, .string t1, .int .i64 k1, .int .i64 n1, .string r1, .slice none 0 0] 44)); have z0 := KZ3.out.cell 0; have zf0 := KZ3.out.froz 0; have z1 := KZ3.out.cell 1; have zf1 := KZ3.out.froz 1; have z2 := KZ3.out.cell 2; have zf2 := KZ3.out.froz 2; have z3 := KZ3.out.cell 3; have zf3 := KZ3.out.froz 3; have z4 := KZ3.out.cell 4; have zf4 := KZ3.out.froz 4; have z5 := KZ3.out.cell 5; have zf5 := KZ3.out.froz 5; simp at z0 z1 z2 z3 z4 z5)
    exact bodyPost_ret (results_agg_tmp Tryz.results90 _ _ _ _ rfl (run_loadVar_row _ _ _ _ _ _ _ (blk_set6 KZ3.out _ _ _ _ _ _) Tryz.underlying44 rfl (by kernel_rfl))) rfl ⟨nilS, by rw [HR.out]; rfl, by rw [HR.out]; exact OwnF.start _ _, below_set6 (B2.out.alloc B2.out.size _) (Nat.le_succ _) _ _ _ _ _ _⟩
  subst he1
  by_cases hlo : fields < (m : Int)
  · have hlo2 : decide (fields < (m : Int)) = true := decide_eq_true hlo
    have hR : headP 2 fields fold (s :: rest) = (hd0, 4) := by rw [HP.out, if_neg (by simp), if_pos (by rw [← HMR.out]; exact hlo)]
    have HR := Lib.hid hR
    clear hR
    go_enter Tryz.func90, Tryz.ntmps90
    go_wp2_with (go_at_call 108; refine (HF.out _ HM.out).mono ?_; rintro e1 w2 ⟨rfl, hb⟩; have KL := Lib.hid (((Blk.new w #[.int .i64 a, .int .i64 fields, .int .i64 c, .int .i64 d, .int .i64 fold] 24).alloc (.cells #[.string ⟨#[]⟩, .string ⟨#[]⟩, .int .i64 0, .int .i64 0, .string ⟨#[]⟩, .slice none 0 0] 44)).call hb); have KZ := Lib.hid ((blk_al2 w #[.int .i64 a, .int .i64 fields, .int .i64 c, .int .i64 d, .int .i64 fold] #[.string ⟨#[]⟩, .string ⟨#[]⟩, .int .i64 0, .int .i64 0, .string ⟨#[]⟩, .slice none 0 0] 24 44).call hb); have B2 := Lib.hid (below_two hb); have hz2 := hb.size; clear hb; have KL3 := Lib.hid (KL.out.alloc (.cells #[.string m1, .string t1, .int .i64 k1, .int .i64 n1, .string r1, .slice none 0 0] 44)); have KZ3 := Lib.hid (KZ.out.alloc (.cells #[.string m1, .string t1, .int .i64 k1, .int .i64 n1, .string r1, .slice none 0 0] 44)); have z0 := KZ3.out.cell 0; have zf0 := KZ3.out.froz 0; have z1 := KZ3.out.cell 1; have zf1 := KZ3.out.froz 1; have z2 := KZ3.out.cell 2; have zf2 := KZ3.out.froz 2; have z3 := KZ3.out.cell 3; have zf3 := KZ3.out.froz 3; have z4 := KZ3.out.cell 4; have zf4 := KZ3.out.froz 4; have z5 := KZ3.out.cell 5; have zf5 := KZ3.out.froz 5; simp at z0 z1 z2 z3 z4 z5; have q0 := KL3.out.cell 0; have qf0 := KL3.out.froz 0; have q1 := KL3.out.cell 1; have qf1 := KL3.out.froz 1; have q2 := KL3.out.cell 2; have qf2 := KL3.out.froz 2; have q3 := KL3.out.cell 3; have qf3 := KL3.out.froz 3; have q4 := KL3.out.cell 4; have qf4 := KL3.out.froz 4; simp at q0 q1 q2 q3 q4)
    exact bodyPost_ret (results_agg_tmp Tryz.results90 _ _ _ _ rfl (run_loadVar_row _ _ _ _ _ _ _ (blk_set6 KZ3.out _ _ _ _ _ _) Tryz.underlying44 rfl (by kernel_rfl))) rfl ⟨nilS, by rw [HR.out]; rfl, by rw [HR.out]; exact OwnF.start _ _, below_set6 (B2.out.alloc B2.out.size _) (Nat.le_succ _) _ _ _ _ _ _⟩
  have hlo2 : decide (fields < (m : Int)) = false := decide_eq_false hlo
  have hR : headP 2 fields fold (s :: rest) = if (allF fold rest).2 ≠ 0 then (hd0, (allF fold rest).2) else (⟨m1, t1, k1, n1, r1, (allF fold rest).1⟩, 0) := by rw [HP.out, if_neg (by simp), if_neg (by rw [← HMR.out]; exact hlo)]
  have HR := Lib.hid hR
  clear hR hlo HP
  obtain ⟨tp, htp⟩ : ∃ tp, tp = (if cc = 1 then some (⟨b, off, none⟩ : Addr) else some ⟨b, off + 1, none⟩) := ⟨_, rfl⟩
  have htS : Strs w (.slice tp m (cc - 1)) rest := by
    by_cases hc1 : cc = 1
    · have : m = 0 := by omega
      subst this
      exact HTL.out.2 rfl _ _
    · rw [htp, if_neg hc1]; exact HTL.out.1 _
  have HTS := Lib.hid htS
  have HTP := Lib.hid htp
  obtain ⟨⟨F, ef⟩, hAF⟩ : ∃ x, allF fold rest = x := ⟨_, rfl⟩
  have HFA := Lib.hid (fun (V : World) (hV : Below w.heap.size w V) => fall_any fold (.slice tp m (cc - 1)) rest V (mx_below HM0.out hV) (htS.below hV) (by have := HMR.out; omega) (by have := HTR.out; omega))
  rw [hAF] at HFA HR
  have HI1 := Lib.hid (show (1 : Int) ≤ (m : Int) + 1 by omega)
  clear htS htp hAF
  go_enter Tryz.func90, Tryz.ntmps90
  go_wp2_with (go_at_call 108; refine (HF.out _ HM.out).mono ?_; rintro e1 w2 ⟨rfl, hb⟩; have KL := Lib.hid (((Blk.new w #[.int .i64 a, .int .i64 fields, .int .i64 c, .int .i64 d, .int .i64 fold] 24).alloc (.cells #[.string ⟨#[]⟩, .string ⟨#[]⟩, .int .i64 0, .int .i64 0, .string ⟨#[]⟩, .slice none 0 0] 44)).call hb); have KZ := Lib.hid ((blk_al2 w #[.int .i64 a, .int .i64 fields, .int .i64 c, .int .i64 d, .int .i64 fold] #[.string ⟨#[]⟩, .string ⟨#[]⟩, .int .i64 0, .int .i64 0, .string ⟨#[]⟩, .slice none 0 0] 24 44).call hb); have B2 := Lib.hid (below_two hb); have hz2 := hb.size; clear hb; have KL3 := Lib.hid (KL.out.alloc (.cells #[.string m1, .string t1, .int .i64 k1, .int .i64 n1, .string r1, .slice none 0 0] 44)); have KZ3 := Lib.hid (KZ.out.alloc (.cells #[.string m1, .string t1, .int .i64 k1, .int .i64 n1, .string r1, .slice none 0 0] 44)); have q0 := KL3.out.cell 0; have qf0 := KL3.out.froz 0; have q1 := KL3.out.cell 1; have qf1 := KL3.out.froz 1; have q2 := KL3.out.cell 2; have qf2 := KL3.out.froz 2; have q3 := KL3.out.cell 3; have qf3 := KL3.out.froz 3; have q4 := KL3.out.cell 4; have qf4 := KL3.out.froz 4; simp at q0 q1 q2 q3 q4)
  refine wp_region_at (S := fun v => Blk v w.heap.size #[.int .i64 a, .int .i64 fields, .int .i64 c, .int .i64 d, .int .i64 fold] 24) (by kernel_rfl) ?_
  intro V0 hV0
  have h0 : Blk V0 w.heap.size #[.int .i64 a, .int .i64 fields, .int .i64 c, .int .i64 d, .int .i64 fold] 24 := by rw [hV0]; exact (KL.out.alloc _).drew
  have HS : Hid (HpS w #[.int .i64 a, .int .i64 fields, .int .i64 c, .int .i64 d, .int .i64 fold] #[.string m1, .string t1, .int .i64 k1, .int .i64 n1, .string r1, .slice none 0 0] w2.heap.size V0) := by
    show HpS _ _ _ _ _
    rw [hV0]
    exact ⟨(KL.out.alloc _).drew, (KZ.out.alloc _).drew, (Blk.new _ _ _).drew, (B2.out.alloc B2.out.size _).drew, by have := hz2; simp at this; omega⟩
  clear hV0 KL KZ B2 hlo2
  refine wpAnyH_take (i := 0) (v := .pointer (some ⟨w.heap.size, 4, none⟩)) rfl (by kernel_rfl) (by kernel_rfl) (by kernel_rfl) (fun _ _ _ h => h) (Or.inl ⟨by kernel_rfl, ?hy9⟩) h0 ?rest9
  case hy9 =>
    intro v hv
    clear hv
    go_simp
  (try simp only [Act.put, List.setIfInBounds_toArray, List.set_cons_zero, List.set_cons_succ])
  refine wpAnyH_take (i := 1) (v := .int .i64 fold) rfl (by kernel_rfl) (by kernel_rfl) (by kernel_rfl) (fun _ _ _ h => h) (Or.inl ⟨by kernel_rfl, ?hy10⟩) h0 ?rest10
  case hy10 =>
    intro v hv
    have q := hv.cell 4
    simp at q
    clear hv
    go_simp
  (try simp only [Act.put, List.setIfInBounds_toArray, List.set_cons_zero, List.set_cons_succ])
  refine wpAnyH_take (i := 2) (v := .slice (some ⟨b, off, none⟩) (m + 1) cc) rfl (by kernel_rfl) (by kernel_rfl) (by kernel_rfl) (fun _ _ _ h => h) (Or.inl ⟨by kernel_rfl, ?hy11⟩) h0 ?rest11
  case hy11 =>
    intro v hv
    clear hv
    go_simp
  (try simp only [Act.put, List.setIfInBounds_toArray, List.set_cons_zero, List.set_cons_succ])
  refine wpAnyH_take (i := 3) (v := .slice tp m (cc - 1)) rfl (by kernel_rfl) (by kernel_rfl) (by kernel_rfl) (fun _ _ _ h => h) (Or.inl ⟨by kernel_rfl, ?hy12⟩) h0 ?rest12
  case hy12 =>
    intro v hv
    clear hv
    go_simp
    rw [if_pos HI1.out, HTP.out]
  (try simp only [Act.put, List.setIfInBounds_toArray, List.set_cons_zero, List.set_cons_succ])
  refine wpAnyH_ready (rs := [4]) (by kernel_rfl) (by simp) ?_
  refine AllReadyH.cons rfl (fun K hK => ?_) AllReadyH.nil
  go_simp
  refine (HFA.out _ HS.out.u).mono ?_
  rintro e V1 ⟨f, rfl, hof, hb1⟩
  obtain ⟨pf, cf, rfl⟩ := own_slice hof
  have HS1 := Lib.hid (HS.out.below hb1)
  have HO1 := Lib.hid hof
  have h1 := h0.call hb1
  have HLT := Lib.hid HS.out.h.lt
  have HLE := Lib.hid HS.out.u.size
  clear hof hb1 h0
  refine hK _ _ h1 (fun _ => ?_)
  clear hK K
  (try simp only [Act.put, List.setIfInBounds_toArray, List.set_cons_zero, List.set_cons_succ])
  refine wpAnyH_take (i := 5) (v := .tuple #[.slice pf F.length cf, .int .i64 ef]) rfl (by kernel_rfl) (by kernel_rfl) (by kernel_rfl) (fun _ _ _ h => h) (Or.inl ⟨by kernel_rfl, ?hy13⟩) h1 ?rest13
  case hy13 =>
    intro v hv
    clear hv
    go_simp
  (try simp only [Act.put, List.setIfInBounds_toArray, List.set_cons_zero, List.set_cons_succ])
  refine wpAnyH_take (i := 6) (v := .slice pf F.length cf) rfl (by kernel_rfl) (by kernel_rfl) (by kernel_rfl) (fun _ _ _ h => h) (Or.inl ⟨by kernel_rfl, ?hy14⟩) h1 ?rest14
  case hy14 =>
    intro v hv
    clear hv
    go_simp
  (try simp only [Act.put, List.setIfInBounds_toArray, List.set_cons_zero, List.set_cons_succ])
  refine wpAnyH_take (i := 7) (v := .int .i64 ef) rfl (by kernel_rfl) (by kernel_rfl) (by kernel_rfl) (fun _ _ _ h => h) (Or.inl ⟨by kernel_rfl, ?hy15⟩) h1 ?rest15
  case hy15 =>
    intro v hv
    clear hv
    go_simp
  (try simp only [Act.put, List.setIfInBounds_toArray, List.set_cons_zero, List.set_cons_succ])
  refine wpAnyH_take (i := 8) (v := .pointer (some ⟨w2.heap.size, 5, none⟩)) rfl (by kernel_rfl) (by kernel_rfl) (by kernel_rfl) (fun _ _ _ h => h) (Or.inl ⟨by kernel_rfl, ?hy16⟩) h1 ?rest16
  case hy16 =>
    intro v hv
    clear hv
    go_simp
  (try simp only [Act.put, List.setIfInBounds_toArray, List.set_cons_zero, List.set_cons_succ])
  refine wpAnyH_ready (rs := [9]) (by kernel_rfl) (by simp) ?_
  refine AllReadyH.cons rfl (fun K hK => ?_) AllReadyH.nil
  have a5 := HS1.out.h.cell 5
  have a5f := HS1.out.h.froz 5
  simp at a5
  have h2 := h1.far (p := ⟨w2.heap.size, 5, none⟩) (Nat.ne_of_lt (Nat.lt_of_succ_lt HS1.out.lt)) (.slice pf F.length cf)
  go_simp
  clear a5 a5f
  refine hK _ _ h2 (fun _ => ?_)
  clear hK K
  (try simp only [Act.put, List.setIfInBounds_toArray, List.set_cons_zero, List.set_cons_succ])
  refine wpAnyH_ready (rs := [10]) (by kernel_rfl) (by simp) ?_
  refine AllReadyH.cons rfl (fun K hK => ?_) AllReadyH.nil
  go_simp
  refine hK _ _ h2 (fun _ => ?_)
  clear hK K
  (try simp only [Act.put, List.setIfInBounds_toArray, List.set_cons_zero, List.set_cons_succ])
  refine wpAnyH_done (by kernel_rfl) ?_ _
  have KH : Blk (V1.setCell ⟨w2.heap.size, 5, none⟩ (.slice pf F.length cf)) w2.heap.size #[.string m1, .string t1, .int .i64 k1, .int .i64 n1, .string r1, .slice pf F.length cf] 44 := by
    have := HS1.out.h.set 5 (.slice pf F.length cf)
    simpa using this
  have KZ2 := HS1.out.z.far (p := ⟨w2.heap.size, 5, none⟩) (Nat.ne_of_lt HS1.out.lt) (.slice pf F.length cf)
  have KO := own_set HO1.out HLT.out 5 (.slice pf F.length cf)
  have KU := HS1.out.u.setCell (p := ⟨w2.heap.size, 5, none⟩) (Nat.le_of_lt (Nat.lt_of_succ_lt HS1.out.lt)) (.slice pf F.length cf)
  have hls := HS1.out.lt
  clear h1 h2 HS HS1 HO1
  generalize V1.setCell ⟨w2.heap.size, 5, none⟩ (.slice pf F.length cf) = V2 at KH KZ2 KO KU ⊢
  have HKH := Lib.hid KH
  have HKZ := Lib.hid KZ2
  have HKO := Lib.hid KO
  have HKU := Lib.hid KU
  have HLS := Lib.hid (Nat.lt_trans hls HLT.out)
  clear KH KZ2 KO KU hls
  have z0 := HKZ.out.cell 0
  have zf0 := HKZ.out.froz 0
  have z1 := HKZ.out.cell 1
  have zf1 := HKZ.out.froz 1
  have z2 := HKZ.out.cell 2
  have zf2 := HKZ.out.froz 2
  have z3 := HKZ.out.cell 3
  have zf3 := HKZ.out.froz 3
  have z4 := HKZ.out.cell 4
  have zf4 := HKZ.out.froz 4
  have z5 := HKZ.out.cell 5
  have zf5 := HKZ.out.froz 5
  simp at z0 z1 z2 z3 z4 z5
  have g0 := HKH.out.cell 0
  have gf0 := HKH.out.froz 0
  have g1 := HKH.out.cell 1
  have gf1 := HKH.out.froz 1
  have g2 := HKH.out.cell 2
  have gf2 := HKH.out.froz 2
  have g3 := HKH.out.cell 3
  have gf3 := HKH.out.froz 3
  have g4 := HKH.out.cell 4
  have gf4 := HKH.out.froz 4
  have g5 := HKH.out.cell 5
  have gf5 := HKH.out.froz 5
  simp at g0 g1 g2 g3 g4 g5
  by_cases hef : ef = 0
  · subst hef
    go_wp2_with fail
    exact bodyPost_ret (results_agg_tmp Tryz.results90 _ _ _ _ rfl (run_loadVar_row _ _ _ _ _ _ _ (blk_set6 HKZ.out _ _ _ _ _ _) Tryz.underlying44 rfl (by kernel_rfl))) rfl ⟨.slice pf F.length cf, by rw [HR.out]; rfl, by rw [HR.out]; exact OwnF.lower (own_set6 HKO.out HLS.out _ _ _ _ _ _) HLE.out, below_set6 HKU.out (Nat.le_succ _) _ _ _ _ _ _⟩
  · have hef2 : (ef != 0) = true := by simpa using hef
    have HR2 : headP 2 fields fold (s :: rest) = (hd0, ef) := by rw [HR.out]; exact if_pos hef
    clear hef
    go_wp2_with fail
    exact bodyPost_ret (results_agg_tmp Tryz.results90 _ _ _ _ rfl (run_loadVar_row _ _ _ _ _ _ _ (blk_set6 HKZ.out _ _ _ _ _ _) Tryz.underlying44 rfl (by kernel_rfl))) rfl ⟨nilS, by rw [HR2]; rfl, by rw [HR2]; exact OwnF.start _ _, below_set6 HKU.out (Nat.le_succ _) _ _ _ _ _ _⟩
end Go.Proofs.YteloccgdafphfaaGreatDoor

/- Texts packed for one claim, 46 of 47: MsS MsU MsW. -/
import Derived.Test.YteloccgdafphfaaGreatDoorMsgQ45
import Derived.Test.YteloccgdafphfaaGreatDoorMsgQ37
set_option linter.unusedSimpArgs false
set_option linter.unusedVariables false
-- MsS
namespace Go.Proofs.YteloccgdafphfaaGreatDoor
open Go.RowKit
theorem MsgIn.call {w w1 : World} {B : Nat} {q : MsgP × MsgV} (h : MsgIn w B q) (hb : Below w.heap.size w w1) : MsgIn w1 B q := ⟨h.1.call hb, h.2.1.call hb, h.2.2.call hb⟩
theorem MsgIn.lower {w : World} {B B' : Nat} {q : MsgP × MsgV} (h : MsgIn w B q) (hB : B' ≤ B) : MsgIn w B' q := ⟨h.1.lower hB, ⟨h.2.1.1, by obtain ⟨_, h2⟩ := h.2.1; rcases h2 with h2 | ⟨g, cap, cur, hv, hg, r⟩; exact Or.inl h2; exact Or.inr ⟨g, cap, cur, hv, Nat.le_trans hB hg, r⟩⟩, h.2.2.lower hB⟩
theorem MsgIn.touch {P : Nat → Prop} {w w1 : World} {B : Nat} {q : MsgP × MsgV} (h : MsgIn w B q) (t : Touch P w w1) (hP : OfTy w P [49]) : MsgIn w1 B q :=
  ⟨own_touch h.1 t (hP.own h.1 (by decide)), own_touch h.2.1 t (hP.own h.2.1 (by decide)), own_touch h.2.2 t (hP.own h.2.2 (by decide))⟩
theorem as_t1 (v : Value) (W : World) : (Instr.typeAssert (.iface 74 v) 69 72 true).run Tryz.prog W = .ok (.tuple #[.agg #[.string ⟨#[]⟩, .string ⟨#[]⟩, .int .i64 0, .int .i64 0, .string ⟨#[]⟩, .slice none 0 0, .int .i64 0, .int .i64 0, .string ⟨#[]⟩, .slice none 0 0, .slice none 0 0, .int .i64 0], .bool false]) W := by kernel_rfl
theorem as_t2 (v : Value) (W : World) : (Instr.typeAssert (.iface 74 v) 69 74 false).run Tryz.prog W = .ok v W := by kernel_rfl
theorem as_w1 (v : Value) (W : World) : (Instr.typeAssert (.iface 72 v) 69 72 true).run Tryz.prog W = .ok (.tuple #[v, .bool true]) W := by kernel_rfl
/-- What the loop holds. -/
structure RqAt (w W : World) (R : Array Value) (v : Value) (l : List (MsgP × MsgV)) : Prop where
  b : Below w.heap.size w W
  s : Blk W (w.heap.size + 2) R 67
  t : Blk W (w.heap.size + 1) #[.int .i64 0, .int .i64 0, .int .i64 0] 31
  o : OwnM W w.heap.size v l
  i : ∀ q ∈ l, MsgIn W w.heap.size q
theorem RqAt.call {w W W1 : World} {R : Array Value} {v : Value} {l : List (MsgP × MsgV)} (h : RqAt w W R v l) (hb : Below W.heap.size W W1) : RqAt w W1 R v l :=
  ⟨h.b.trans (hb.mono h.b.size), h.s.call hb, h.t.call hb, own_touch h.o (P := fun _ => False) (Touch.of_below hb) (fun _ _ => id), fun q hq => (h.i q hq).call hb⟩
theorem RqAt.more {w W W1 : World} {R : Array Value} {v v' : Value} {l : List (MsgP × MsgV)} (h : RqAt w W R v l) (y : MsgP × MsgV) (hy : MsgIn W w.heap.size y) (o : OwnM W1 w.heap.size v' (l ++ [y])) (t : Touch (fun j => v.ownBlock = some j) W W1) : RqAt w W1 R v' (l ++ [y]) := by
  have hP : OfTy W (fun j => v.ownBlock = some j) [49] := fun j hj => by
    obtain ⟨_, cs, hb⟩ := own_ty h.o j hj
    exact ⟨_, _, by decide, hb⟩
  refine ⟨h.b.trans (t.below (fun k _ hk => (own_ty h.o k hk).1) h.b.size), h.s.touch t (hP.not h.s (by decide)), h.t.touch t (hP.not h.t (by decide)), o, fun q hq => ?_⟩
  rcases List.mem_append.1 hq with hq | hq
  · exact (h.i q hq).touch t hP
  · rw [List.mem_singleton.1 hq]; exact hy.touch t hP
theorem RqAt.push {w W W1 : World} {R : Array Value} {v v' : Value} {l : List (MsgP × MsgV)} (h : RqAt w W R v l) {O : Obj} (y : MsgP × MsgV) (hy : MsgIn W w.heap.size y) (o : OwnM W1 w.heap.size v' (l ++ [y])) (hg : (W.alloc O).grownBy W1 v.ownBlock) : RqAt w W1 R v' (l ++ [y]) :=
  h.more y hy o (touch_into ((Touch.refl (fun j => v.ownBlock = some j) W).alloc O) (Q := fun j => v.ownBlock = some j) ⟨hg.os, hg.tape, hg.output, hg.size, fun k hk hne => hg.block k hk (fun e => hne e.symm)⟩ (fun _ _ e => e))
theorem results_tc {fn : Func} {t p : Tmp} {ty : TypeId} (h : fn.results = #[.tmp t, .cell p ty]) (tmps : Array Value) (P : Program) (w : World) (g : Nat) (cs : Array Value)
    (hp : tmps.getD p undef = .pointer (some ⟨g, 0, none⟩)) (hl : (loadVar ty ⟨g, 0, none⟩).run P w = .ok (.agg cs) w) : (results fn tmps).run P w = .ok (.tuple #[tmps.getD t undef, .agg cs]) w := by
  simp only [Array.getD_eq_getD_getElem?] at hp
  simp only [results, h]
  simp [Sem.run_bind, Result.andThen, hp, asAddr, hl, Sem.run_pure]
theorem tail_set3 {w : World} {g : Nat} {t : TypeId} {x0 x1 x2 : Value} (h : Blk w g #[x0, x1, x2] t) (a b c : Value) : Blk (((w.setCell ⟨g, 0, none⟩ a).setCell ⟨g, 1, none⟩ b).setCell ⟨g, 2, none⟩ c) g #[a, b, c] t := by
  have := ((h.set 0 a).set 1 b).set 2 c
  simpa using this
theorem RqAt.tail {w W : World} {R : Array Value} {v : Value} {l : List (MsgP × MsgV)} (h : RqAt w W R v l) (a b c : Value) : OwnM (((W.setCell ⟨w.heap.size + 1, 0, none⟩ a).setCell ⟨w.heap.size + 1, 1, none⟩ b).setCell ⟨w.heap.size + 1, 2, none⟩ c) w.heap.size v l ∧ (∀ q ∈ l, MsgIn (((W.setCell ⟨w.heap.size + 1, 0, none⟩ a).setCell ⟨w.heap.size + 1, 1, none⟩ b).setCell ⟨w.heap.size + 1, 2, none⟩ c) w.heap.size q) ∧ Below w.heap.size w (((W.setCell ⟨w.heap.size + 1, 0, none⟩ a).setCell ⟨w.heap.size + 1, 1, none⟩ b).setCell ⟨w.heap.size + 1, 2, none⟩ c) := by
  have T : Touch (fun j => j = w.heap.size + 1) W (((W.setCell ⟨w.heap.size + 1, 0, none⟩ a).setCell ⟨w.heap.size + 1, 1, none⟩ b).setCell ⟨w.heap.size + 1, 2, none⟩ c) := (((Touch.refl (fun j => j = w.heap.size + 1) W).setCell (p := ⟨w.heap.size + 1, 0, none⟩) rfl _).setCell (p := ⟨w.heap.size + 1, 1, none⟩) rfl _).setCell (p := ⟨w.heap.size + 1, 2, none⟩) rfl _
  have hP : OfTy W (fun j => j = w.heap.size + 1) [31] := fun j e => ⟨_, _, by decide, e ▸ h.t⟩
  refine ⟨own_touch h.o T (hP.own h.o (by decide)), fun q hq => ?_, ((h.b.setCell (Nat.le_succ _) _).setCell (Nat.le_succ _) _).setCell (Nat.le_succ _) _⟩
  have hi := h.i q hq
  exact ⟨own_touch hi.1 T (hP.own hi.1 (by decide)), own_touch hi.2.1 T (hP.own hi.2.1 (by decide)), own_touch hi.2.2 T (hP.own hi.2.2 (by decide))⟩
set_option maxRecDepth 100000 in
set_option maxHeartbeats 8000000 in
theorem mreqs_any (x : ByteArray) (closed : Bool) (a fields c d fold : Int) (w : World) (hfi : -9223372036854775808 ≤ fields ∧ fields ≤ 9223372036854775807) {mx : Int} (hm : w.cell? ⟨0, 0, none⟩ = some (.int .i64 mx)) (hx : x.size ≤ 100000) {R : List MsgP × (Int × Nat × Int)} (hR : reqsP ⟨a, fields, c, d, fold⟩ closed (x.size + 1) x.data.toList 0 [] = R) :
    Calls Tryz.prog 11 #[.string x, .bool closed, .agg #[.int .i64 a, .int .i64 fields, .int .i64 c, .int .i64 d, .int .i64 fold]] w fun e w' => ∃ v l, e = .returned (.tuple #[v, .agg #[.int .i64 R.2.1, .int .i64 (R.2.2.1 : Int), .int .i64 R.2.2.2]]) ∧ l.map (·.1) = R.1 ∧ OwnM w' w.heap.size v l ∧ (∀ q ∈ l, MsgIn w' w.heap.size q) ∧ Below w.heap.size w w' := by
  have hw : 0 < w.heap.size := World.block_lt_of_cell? w _ hm
  have H1 : Hid (RqAt w (((w.alloc (.cells #[.int .i64 a, .int .i64 fields, .int .i64 c, .int .i64 d, .int .i64 fold] 24)).alloc (.cells #[.int .i64 0, .int .i64 0, .int .i64 0] 31)).alloc (.cells #[.string x, .bool closed, .int .i64 a, .int .i64 fields, .int .i64 c, .int .i64 d, .int .i64 fold, .int .i64 1] 67)) #[.string x, .bool closed, .int .i64 a, .int .i64 fields, .int .i64 c, .int .i64 d, .int .i64 fold, .int .i64 1] (.slice none 0 0) []) := ⟨((((Below.refl _ _).alloc (Nat.le_refl _) _).alloc (by simp) _).alloc (by simp; omega) _), Blk.new' (by simp), (Blk.new' (by simp)).alloc _, OwnM.start _ _, fun q hq => by cases hq⟩
  have HM := Lib.hid hm
  have H0 := Lib.hid hw
  have HX := Lib.hid hx
  have HF := Lib.hid hfi
  have HR := Lib.hid hR
  clear hm hw hx hfi hR
  go_enter Tryz.func11, Tryz.ntmps11
  go_wp2_with fail
  go_loopw [9, 10] (fun u9 u10 wr => ∃ (v : Value) (l : List (MsgP × MsgV)) (at_ f : Nat), u9 = v ∧ u10 = .int .i64 (at_ : Int) ∧ at_ ≤ x.size ∧ x.size - at_ + 1 ≤ f ∧ l.length ≤ at_ ∧ reqsP ⟨a, fields, c, d, fold⟩ closed f (x.data.toList.drop at_) at_ (l.map (·.1)) = R ∧ RqAt w wr #[.string x, .bool closed, .int .i64 a, .int .i64 fields, .int .i64 c, .int .i64 d, .int .i64 fold, .int .i64 1] v l) (fun _ u10 _ => x.size - (intOf u10).toNat)
  case atStart => exact ⟨_, [], 0, x.size + 1, rfl, rfl, Nat.zero_le _, by omega, Nat.le_refl _, HR.out, H1.out⟩
  case round =>
    obtain ⟨v, l, at_, f, rfl, rfl, hat, hf, hll, hr, hq⟩ := hrel
    obtain ⟨f, rfl⟩ : ∃ f', f = f' + 1 := ⟨f - 1, by omega⟩
    have HQ := Lib.hid hq
    have HAT := Lib.hid hat
    have HN : Hid (Calls Tryz.prog 31 #[.agg #[.string x, .bool closed, .int .i64 a, .int .i64 fields, .int .i64 c, .int .i64 d, .int .i64 fold, .int .i64 1], .int .i64 (at_ : Int), .string ⟨#[]⟩] wr fun o w' => NextOk wr w' at_ o (oneP ⟨a, fields, c, d, fold⟩ closed 1 ⟨#[]⟩ (x.data.toList.drop at_)) ∧ Below wr.heap.size wr w') := mnext_any x closed a fields c d fold 1 at_ ⟨#[]⟩ wr (Or.inl rfl) HF.out (mx_below' HM.out H0.out HQ.out.b) HX.out HAT.out
    have y0 := HQ.out.s.cell 0; have y1 := HQ.out.s.cell 1; have y2 := HQ.out.s.cell 2; have y3 := HQ.out.s.cell 3; have y4 := HQ.out.s.cell 4; have y5 := HQ.out.s.cell 5; have y6 := HQ.out.s.cell 6; have y7 := HQ.out.s.cell 7
    simp at y0 y1 y2 y3 y4 y5 y6 y7
    rw [reqsP] at hr
    clear hq hat
    cases ho : oneP ⟨a, fields, c, d, fold⟩ closed 1 ⟨#[]⟩ (x.data.toList.drop at_) with
    | tail k e =>
      rw [ho] at hr HN
      have HRR : Hid ((l.map (·.1), (k, at_, e)) = R) := hr
      clear hr ho hf hll
      have t1 := as_t1
      have t2 := as_t2
      go_wp2_with (first | (go_at_call 31; refine HN.out.mono ?_; rintro e1 w1 ⟨h1, hb⟩; have h2 : e1 = _ := h1; subst h2; clear h1; have HQ1 := Lib.hid (HQ.out.call hb); clear hb; have z0 := HQ1.out.t.cell 0; have z1 := HQ1.out.t.cell 1; have z2 := HQ1.out.t.cell 2; simp at z0 z1 z2; have q0 := HQ1.out.t.froz 0; have q1 := HQ1.out.t.froz 1; have q2 := HQ1.out.t.froz 2; clear y0 y1 y2 y3 y4 y5 y6 y7))
      have HQ2 := Lib.hid (HQ1.out.call (W1 := (w1.alloc (.cells #[.string ⟨#[]⟩, .string ⟨#[]⟩, .int .i64 0, .int .i64 0, .string ⟨#[]⟩, .slice none 0 0, .int .i64 0, .int .i64 0, .string ⟨#[]⟩, .slice none 0 0, .slice none 0 0, .int .i64 0] 72))) ((Below.refl _ _).alloc (Nat.le_refl _) _))
      have HQ3 : Hid (∀ n, RqAt w ((w1.alloc (.cells #[.string ⟨#[]⟩, .string ⟨#[]⟩, .int .i64 0, .int .i64 0, .string ⟨#[]⟩, .slice none 0 0, .int .i64 0, .int .i64 0, .string ⟨#[]⟩, .slice none 0 0, .slice none 0 0, .int .i64 0] 72)).drewN n) #[.string x, .bool closed, .int .i64 a, .int .i64 fields, .int .i64 c, .int .i64 d, .int .i64 fold, .int .i64 1] u9 l) := fun n => HQ2.out.call ⟨rfl, rfl, rfl, Nat.le_refl _, fun _ _ => rfl⟩
      clear z0 z1 z2 q0 q1 q2
      refine wp_region_drew_tail 4 (by kernel_rfl) (by kernel_rfl) ?_
      simp only [List.take_succ_cons, List.take_zero, List.drop_succ_cons, List.drop_zero]
      repeat go_big_quiet_step (fail)
      refine wpQuiet_nil ?_
      rintro _ ⟨nq, rfl⟩
      have z0 := (HQ3.out nq).t.cell 0; have z1 := (HQ3.out nq).t.cell 1; have z2 := (HQ3.out nq).t.cell 2
      simp at z0 z1 z2
      have q0 := (HQ3.out nq).t.froz 0; have q1 := (HQ3.out nq).t.froz 1; have q2 := (HQ3.out nq).t.froz 2
      go_wp2_with fail
      have hRR := HRR.out
      subst hRR
      obtain ⟨g1, g2, g3⟩ := (HQ3.out nq).tail (.int .i64 k) (.int .i64 (at_ : Int)) (.int .i64 e)
      exact bodyPost_ret (results_tc Tryz.results11 _ _ _ _ _ rfl (run_loadVar_row _ _ _ _ _ _ _ (tail_set3 (HQ3.out nq).t _ _ _) Tryz.underlying31 rfl (by kernel_rfl))) rfl ⟨_, l, rfl, rfl, g1, g2, g3⟩
    | whole M u =>
      rw [ho] at hr HN
      obtain ⟨⟨Mm, Mt, Mk, Mn, Mr, Mf⟩, Mfk, Mfl, Mb, Ms, Mtr⟩ := M
      have t1 := as_w1
      have HLL := Lib.hid hll
      obtain ⟨u0, u1⟩ := oneP_used ho
      have HU := Lib.hid (And.intro u0 u1)
      have HRR := Lib.hid hr
      have HFF := Lib.hid hf
      clear hr ho hf hll u0 u1
      go_wp2_with (first | (go_at_call 31; refine HN.out.mono ?_; rintro e1 w1 ⟨⟨vf, vz, vt, h1, of1, oi1, ot1⟩, hb⟩; subst h1; obtain ⟨fp, fc, hfv, _⟩ := of1.flds; subst hfv; obtain ⟨zp, zc, hzv⟩ := oi1.shape; subst hzv; obtain ⟨tp, tc, htv, _⟩ := ot1.flds; subst htv; have HQ1 := Lib.hid (HQ.out.call hb); have HY1 : Hid (MsgIn w1 wr.heap.size (⟨⟨Mm, Mt, Mk, Mn, Mr, Mf⟩, Mfk, Mfl, Mb, Ms, Mtr⟩, ⟨_, _, _⟩)) := (show MsgIn w1 wr.heap.size (⟨⟨Mm, Mt, Mk, Mn, Mr, Mf⟩, Mfk, Mfl, Mb, Ms, Mtr⟩, ⟨_, _, _⟩) from ⟨of1, oi1, ot1⟩); clear hb of1 oi1 ot1; clear y0 y1 y2 y3 y4 y5 y6 y7) | (at_builtin; refine wpList_push_msg rfl _ _ rfl rfl (HQ1.out.call ((Below.refl w1.heap.size w1).alloc (Nat.le_refl _) _)).o _ (HY1.out.call ((Below.refl w1.heap.size w1).alloc (Nat.le_refl _) _)) rfl (by simp) (by have := HLL.out; have := HAT.out; have := HX.out; omega) (HQ1.out.call ((Below.refl w1.heap.size w1).alloc (Nat.le_refl _) _)).b.size ?_; intro p4 c4 w4 ho4 hg4 hb4; have HQ4 := Lib.hid ((HQ1.out.call ((Below.refl w1.heap.size w1).alloc (Nat.le_refl _) _)).push _ ((HY1.out.call ((Below.refl w1.heap.size w1).alloc (Nat.le_refl _) _)).lower HQ.out.b.size) ho4 hg4); clear ho4 hg4 hb4) | (go_at_call 34; refine (mbehind_whole _ _ _ _ _ _ _ _ _ _ _ _ _).mono ?_; rintro e5 w5 ⟨rfl, hb⟩; have HQ5 := Lib.hid (HQ4.out.call hb); clear hb))
      go_roundw
      case rel =>
        have h1 := HU.out.1
        have h2 := HU.out.2
        have h3 := HFF.out
        have h4 := HLL.out
        have h5 := HAT.out
        rw [List.length_drop] at h2
        have h6 := Lib.size_eq x
        refine ⟨_, _, at_ + u, f, rfl, by simp, by omega, by omega, by rw [List.length_append]; simp only [List.length_cons, List.length_nil]; omega, ?_, HQ5.out⟩
        rw [List.map_append, ← List.drop_drop]
        exact HRR.out
      case measure =>
        have h1 := HU.out.1
        have h2 := HU.out.2
        have h6 := Lib.size_eq x
        rw [List.length_drop] at h2
        simp [intOf]
        omega
end Go.Proofs.YteloccgdafphfaaGreatDoor
-- MsU
namespace Go.Proofs.YteloccgdafphfaaGreatDoor
open Go.RowKit
theorem RqAt.apart {w W W1 : World} {R : Array Value} {v : Value} {l : List (MsgP × MsgV)} (h : RqAt w W R v l) {O : Obj} (hg : (W.alloc O).grownBy W1 v.ownBlock) {g : Nat} {cs : Array Value} {t : TypeId} (hb : Blk W g cs t) (ht : t ∉ [49]) : Blk W1 g cs t := by
  have hP : OfTy W (fun j => v.ownBlock = some j) [49] := fun j hj => by
    obtain ⟨_, cs, hb⟩ := own_ty h.o j hj
    exact ⟨_, _, by decide, hb⟩
  exact hb.touch (touch_into ((Touch.refl (fun j => v.ownBlock = some j) W).alloc O) (Q := fun j => v.ownBlock = some j) ⟨hg.os, hg.tape, hg.output, hg.size, fun k hk hne => hg.block k hk (fun e => hne e.symm)⟩ (fun _ _ e => e)) (hP.not hb ht)
theorem as_t3 (v : Value) (W : World) : (Instr.typeAssert (.iface 74 v) 69 74 true).run Tryz.prog W = .ok (.tuple #[v, .bool true]) W := by kernel_rfl
set_option maxRecDepth 100000 in
set_option maxHeartbeats 8000000 in
theorem mresps_any (x : ByteArray) (closed : Bool) (vm : Value) (ms : List ByteArray) (a fields c d fold : Int) (w : World) (hv : Strs w vm ms) (hml : ms.length ≤ 100000) (hfi : -9223372036854775808 ≤ fields ∧ fields ≤ 9223372036854775807) {mx : Int} (hm : w.cell? ⟨0, 0, none⟩ = some (.int .i64 mx)) (hx : x.size ≤ 100000) {R : List MsgP × (Int × Nat × Int)} (hR : respsP ⟨a, fields, c, d, fold⟩ closed (x.size + 1) ms x.data.toList 0 [] = R) :
    Calls Tryz.prog 14 #[.string x, .bool closed, vm, .agg #[.int .i64 a, .int .i64 fields, .int .i64 c, .int .i64 d, .int .i64 fold]] w fun e w' => ∃ v l, e = .returned (.tuple #[v, .agg #[.int .i64 R.2.1, .int .i64 (R.2.2.1 : Int), .int .i64 R.2.2.2]]) ∧ l.map (·.1) = R.1 ∧ OwnM w' w.heap.size v l ∧ (∀ q ∈ l, MsgIn w' w.heap.size q) ∧ Below w.heap.size w w' := by
  have hw : 0 < w.heap.size := World.block_lt_of_cell? w _ hm
  have H1 : Hid (RqAt w (((w.alloc (.cells #[.int .i64 a, .int .i64 fields, .int .i64 c, .int .i64 d, .int .i64 fold] 24)).alloc (.cells #[.int .i64 0, .int .i64 0, .int .i64 0] 31)).alloc (.cells #[.string x, .bool closed, .int .i64 a, .int .i64 fields, .int .i64 c, .int .i64 d, .int .i64 fold, .int .i64 2] 67)) #[.string x, .bool closed, .int .i64 a, .int .i64 fields, .int .i64 c, .int .i64 d, .int .i64 fold, .int .i64 2] (.slice none 0 0) []) := ⟨((((Below.refl _ _).alloc (Nat.le_refl _) _).alloc (by simp) _).alloc (by simp; omega) _), Blk.new' (by simp), (Blk.new' (by simp)).alloc _, OwnM.start _ _, fun q hq => by cases hq⟩
  have HM := Lib.hid hm
  have H0 := Lib.hid hw
  have HX := Lib.hid hx
  have HF := Lib.hid hfi
  have HR := Lib.hid hR
  have HV := Lib.hid hv
  have HML := Lib.hid hml
  obtain ⟨mp, mc, hmv, _⟩ := hv
  subst hmv
  clear hm hw hx hfi hR hml
  go_enter Tryz.func14, Tryz.ntmps14
  go_wp2_with fail
  go_loopw [11, 12, 13] (fun u11 u12 u13 wr => ∃ (v : Value) (l : List (MsgP × MsgV)) (at_ i f : Nat), u11 = v ∧ u12 = .int .i64 (at_ : Int) ∧ u13 = .int .i64 (i : Int) ∧ at_ ≤ x.size ∧ i ≤ ms.length ∧ x.size - at_ + 1 ≤ f ∧ l.length ≤ at_ ∧ respsP ⟨a, fields, c, d, fold⟩ closed f (ms.drop i) (x.data.toList.drop at_) at_ (l.map (·.1)) = R ∧ RqAt w wr #[.string x, .bool closed, .int .i64 a, .int .i64 fields, .int .i64 c, .int .i64 d, .int .i64 fold, .int .i64 2] v l) (fun _ u12 _ _ => x.size - (intOf u12).toNat)
  case atStart => exact ⟨_, [], 0, 0, x.size + 1, rfl, rfl, rfl, Nat.zero_le _, Nat.zero_le _, by omega, Nat.le_refl _, HR.out, H1.out⟩
  case round =>
    obtain ⟨v, l, at_, i, f, rfl, rfl, rfl, hat, hi, hf, hll, hr, hq⟩ := hrel
    obtain ⟨f, rfl⟩ : ∃ f', f = f' + 1 := ⟨f - 1, by omega⟩
    have HQ := Lib.hid hq
    have HAT := Lib.hid hat
    have y0 : wr.cell? ⟨w.heap.size + 1 + 1, 0, none⟩ = some (.string x) := HQ.out.s.cell 0
    have y1 : wr.cell? ⟨w.heap.size + 1 + 1, 1, none⟩ = some (.bool closed) := HQ.out.s.cell 1
    have y2 : wr.cell? ⟨w.heap.size + 1 + 1, 2, none⟩ = some (.int .i64 a) := HQ.out.s.cell 2
    have y3 : wr.cell? ⟨w.heap.size + 1 + 1, 3, none⟩ = some (.int .i64 fields) := HQ.out.s.cell 3
    have y4 : wr.cell? ⟨w.heap.size + 1 + 1, 4, none⟩ = some (.int .i64 c) := HQ.out.s.cell 4
    have y5 : wr.cell? ⟨w.heap.size + 1 + 1, 5, none⟩ = some (.int .i64 d) := HQ.out.s.cell 5
    have y6 : wr.cell? ⟨w.heap.size + 1 + 1, 6, none⟩ = some (.int .i64 fold) := HQ.out.s.cell 6
    have y7 : wr.cell? ⟨w.heap.size + 1 + 1, 7, none⟩ = some (.int .i64 2) := HQ.out.s.cell 7
    have hml := HML.out
    by_cases hlt : i < ms.length
    · have hd1 : decide ((i : Int) < (ms.length : Int)) = true := decide_eq_true (by omega)
      have hd2 : decide (i < ms.length) = true := decide_eq_true hlt
      obtain ⟨tm, htm⟩ : ∃ t, t = ms[i] := ⟨_, rfl⟩
      have hdr : ms.drop i = tm :: ms.drop (i + 1) := by rw [htm]; exact List.drop_eq_getElem_cons hlt
      obtain ⟨p', c', hv', hc⟩ := HV.out.below HQ.out.b
      injection hv' with hp1 _ hp3
      subst hp1 hp3
      obtain ⟨b, off, rfl, hcell⟩ := hc i hlt
      rw [← htm] at hcell
      have HQN : Hid (∀ n, RqAt w (wr.drewN n) #[.string x, .bool closed, .int .i64 a, .int .i64 fields, .int .i64 c, .int .i64 d, .int .i64 fold, .int .i64 2] u11 l) := fun n => HQ.out.call ⟨rfl, rfl, rfl, Nat.le_refl _, fun _ _ => rfl⟩
      have HN : Hid (∀ n, Calls Tryz.prog 31 #[.agg #[.string x, .bool closed, .int .i64 a, .int .i64 fields, .int .i64 c, .int .i64 d, .int .i64 fold, .int .i64 2], .int .i64 (at_ : Int), .string tm] (wr.drewN n) fun o w' => NextOk (wr.drewN n) w' at_ o (oneP ⟨a, fields, c, d, fold⟩ closed 2 tm (x.data.toList.drop at_)) ∧ Below (wr.drewN n).heap.size (wr.drewN n) w') := fun n => mnext_any x closed a fields c d fold 2 at_ tm (wr.drewN n) (Or.inr rfl) HF.out (mx_below' HM.out H0.out (HQN.out n).b) HX.out HAT.out
      rw [hdr, respsP] at hr
      have HDR := Lib.hid hdr
      have HLT := Lib.hid hlt
      clear hq hat hc hdr htm hml hi
      cases ho : oneP ⟨a, fields, c, d, fold⟩ closed 2 tm (x.data.toList.drop at_) with
      | tail k e =>
        rw [ho] at HN
        try simp only at hr
        rw [ho] at hr
        have HRR : Hid ((l.map (·.1), (k, at_, e)) = R) := hr
        clear hr ho hf hll
        have t1 := as_t1
        have t3 := as_t3
        go_upto_region 6 with fail
        refine wp_region_drew_tail 6 (by kernel_rfl) (by kernel_rfl) ?_
        simp only [List.take_succ_cons, List.take_zero, List.drop_succ_cons, List.drop_zero]
        go_big_quiet_step (fail)
        repeat go_big_quiet_step (fail)
        refine wpQuiet_nil ?_
        rintro _ ⟨nq, rfl⟩
        go_wp2_with (go_at_call 31; refine (HN.out _).mono ?_; rintro e1 w1 ⟨h1, hb⟩; have h2 : e1 = _ := h1; subst h2; clear h1; have HQ1 := Lib.hid ((HQN.out _).call hb); clear hb; clear y0 y1 y2 y3 y4 y5 y6 y7)
        have HQ2 := Lib.hid (HQ1.out.call (W1 := (w1.alloc (.cells #[.int .i64 k, .int .i64 (at_ : Int), .int .i64 e] 74))) ((Below.refl _ _).alloc (Nat.le_refl _) _))
        have HQ3 : Hid (∀ n, RqAt w ((w1.alloc (.cells #[.int .i64 k, .int .i64 (at_ : Int), .int .i64 e] 74)).drewN n) #[.string x, .bool closed, .int .i64 a, .int .i64 fields, .int .i64 c, .int .i64 d, .int .i64 fold, .int .i64 2] u11 l) := fun n => HQ2.out.call ⟨rfl, rfl, rfl, Nat.le_refl _, fun _ _ => rfl⟩
        refine wp_region_drew_tail 3 (by kernel_rfl) (by kernel_rfl) ?_
        simp only [List.take_succ_cons, List.take_zero, List.drop_succ_cons, List.drop_zero]
        repeat go_big_quiet_step (fail)
        refine wpQuiet_nil ?_
        rintro _ ⟨nq2, rfl⟩
        have z0 := (HQ3.out nq2).t.cell 0; have z1 := (HQ3.out nq2).t.cell 1; have z2 := (HQ3.out nq2).t.cell 2
        simp at z0 z1 z2
        have q0 := (HQ3.out nq2).t.froz 0; have q1 := (HQ3.out nq2).t.froz 1; have q2 := (HQ3.out nq2).t.froz 2
        go_wp2_with fail
        have hRR := HRR.out
        subst hRR
        obtain ⟨g1, g2, g3⟩ := (HQ3.out nq2).tail (.int .i64 k) (.int .i64 (at_ : Int)) (.int .i64 e)
        exact bodyPost_ret (results_tc Tryz.results14 _ _ _ _ _ rfl (run_loadVar_row _ _ _ _ _ _ _ (tail_set3 (HQ3.out nq2).t _ _ _) Tryz.underlying31 rfl (by kernel_rfl))) rfl ⟨_, l, rfl, rfl, g1, g2, g3⟩
      | whole M u =>
        rw [ho] at HN
        rw [ho] at hr
        obtain ⟨⟨Mm, Mt, Mk, Mn, Mr, Mf⟩, Mfk, Mfl, Mb, Ms, Mtr⟩ := M
        have t1 := as_w1
        have HLL := Lib.hid hll
        obtain ⟨u0, u1⟩ := oneP_used ho
        have HU := Lib.hid (And.intro u0 u1)
        have HRR := Lib.hid hr
        have HFF := Lib.hid hf
        clear hr ho hf hll u0 u1
        have hw9 : wrap64 ((i : Int) + 1) = ((i + 1 : Nat) : Int) := by have := HML.out; rw [IntWalk.wrap64_in _ ⟨by omega, by omega⟩]; simp
        by_cases h9 : 199 < Mn
        · have hd9 : decide (Mn ≤ 199) = false := decide_eq_false (by omega)
          have hd8 : decide (199 < Mn) = true := decide_eq_true h9
          have hd7 : ¬ Mn ≤ 199 := by omega
          go_upto_region 6 with fail
          refine wp_region_drew_tail 6 (by kernel_rfl) (by kernel_rfl) ?_
          simp only [List.take_succ_cons, List.take_zero, List.drop_succ_cons, List.drop_zero]
          repeat go_big_quiet_step (fail)
          refine wpQuiet_nil ?_
          rintro _ ⟨nq, rfl⟩
          go_wp2_with (first | (go_at_call 31; refine (HN.out _).mono ?_; rintro e1 w1 ⟨⟨vf, vz, vt, h1, of1, oi1, ot1⟩, hb⟩; subst h1; obtain ⟨fp, fc, hfv, _⟩ := of1.flds; subst hfv; obtain ⟨zp, zc, hzv⟩ := oi1.shape; subst hzv; obtain ⟨tp, tc, htv, _⟩ := ot1.flds; subst htv; have HQ1 := Lib.hid ((HQN.out nq).call hb); have HY1 : Hid (MsgIn w1 (wr.drewN nq).heap.size (⟨⟨Mm, Mt, Mk, Mn, Mr, Mf⟩, Mfk, Mfl, Mb, Ms, Mtr⟩, ⟨_, _, _⟩)) := (show MsgIn w1 (wr.drewN nq).heap.size (⟨⟨Mm, Mt, Mk, Mn, Mr, Mf⟩, Mfk, Mfl, Mb, Ms, Mtr⟩, ⟨_, _, _⟩) from ⟨of1, oi1, ot1⟩); clear hb of1 oi1 ot1; clear y0 y1 y2 y3 y4 y5 y6 y7) | (at_builtin; refine wpList_push_msg rfl _ _ rfl rfl (HQ1.out.call ((Below.refl w1.heap.size w1).alloc (Nat.le_refl _) _)).o _ (HY1.out.call ((Below.refl w1.heap.size w1).alloc (Nat.le_refl _) _)) rfl (by simp) (by have := HLL.out; have := HAT.out; have := HX.out; omega) (HQ1.out.call ((Below.refl w1.heap.size w1).alloc (Nat.le_refl _) _)).b.size ?_; intro p4 c4 w4 ho4 hg4 hb4; have HQ4 := Lib.hid ((HQ1.out.call ((Below.refl w1.heap.size w1).alloc (Nat.le_refl _) _)).push _ ((HY1.out.call ((Below.refl w1.heap.size w1).alloc (Nat.le_refl _) _)).lower (HQN.out nq).b.size) ho4 hg4); have KW4 := Lib.hid ((HQ1.out.call ((Below.refl w1.heap.size w1).alloc (Nat.le_refl _) _)).apart hg4 (Blk.new w1 #[.string Mm, .string Mt, .int .i64 Mk, .int .i64 Mn, .string Mr, .slice fp Mf.length fc, .int .i64 Mfk, .int .i64 Mfl, .string (strL Mb), .slice zp Ms.length zc, .slice tp Mtr.length tc, .int .i64 ((at_ : Int) + (u : Int))] 72) (by decide)); clear ho4 hg4 hb4; have k0 := KW4.out.cell 0; have k1 := KW4.out.cell 1; have k2 := KW4.out.cell 2; have k3 := KW4.out.cell 3; have k4 := KW4.out.cell 4; have k5 := KW4.out.cell 5; have k6 := KW4.out.cell 6; have k7 := KW4.out.cell 7; have k8 := KW4.out.cell 8; have k9 := KW4.out.cell 9; have k10 := KW4.out.cell 10; have k11 := KW4.out.cell 11; simp at k0 k1 k2 k3 k4 k5 k6 k7 k8 k9 k10 k11) | (go_at_call 34; refine (mbehind_whole _ _ _ _ _ _ _ _ _ _ _ _ _).mono ?_; rintro e5 w5 ⟨rfl, hb⟩; have HQ5 := Lib.hid (HQ4.out.call hb); have KW5 := Lib.hid (KW4.out.call hb); clear hb; clear k0 k1 k2 k3 k4 k5 k6 k7 k8 k9 k10 k11; have k3 := KW5.out.cell 3; simp at k3))
          go_roundw
          case rel =>
            have h1 := HU.out.1
            have h2 := HU.out.2
            have h3 := HFF.out
            have h4 := HLL.out
            have h5 := HAT.out
            have h7 := HLT.out
            rw [List.length_drop] at h2
            have h6 := Lib.size_eq x
            refine ⟨_, _, at_ + u, i + 1, f, rfl, by simp, (by first | rfl | rw [hw9]), by omega, by omega, by omega, by rw [List.length_append]; simp only [List.length_cons, List.length_nil]; omega, ?_, HQ5.out⟩
            have e9 : x.data.toList.drop (at_ + u) = (x.data.toList.drop at_).drop u := by rw [List.drop_drop]
            rw [List.map_append, e9]
            have := HRR.out
            try dsimp only at this
            rw [if_pos h9] at this
            exact this
          case measure =>
            have h1 := HU.out.1
            have h2 := HU.out.2
            have h6 := Lib.size_eq x
            rw [List.length_drop] at h2
            simp [intOf]
            omega
        · have hd9 : decide (Mn ≤ 199) = true := decide_eq_true (by omega)
          have hd8 : decide (199 < Mn) = false := decide_eq_false h9
          have hd7 : Mn ≤ 199 := by omega
          go_upto_region 6 with fail
          refine wp_region_drew_tail 6 (by kernel_rfl) (by kernel_rfl) ?_
          simp only [List.take_succ_cons, List.take_zero, List.drop_succ_cons, List.drop_zero]
          repeat go_big_quiet_step (fail)
          refine wpQuiet_nil ?_
          rintro _ ⟨nq, rfl⟩
          go_wp2_with (first | (go_at_call 31; refine (HN.out _).mono ?_; rintro e1 w1 ⟨⟨vf, vz, vt, h1, of1, oi1, ot1⟩, hb⟩; subst h1; obtain ⟨fp, fc, hfv, _⟩ := of1.flds; subst hfv; obtain ⟨zp, zc, hzv⟩ := oi1.shape; subst hzv; obtain ⟨tp, tc, htv, _⟩ := ot1.flds; subst htv; have HQ1 := Lib.hid ((HQN.out nq).call hb); have HY1 : Hid (MsgIn w1 (wr.drewN nq).heap.size (⟨⟨Mm, Mt, Mk, Mn, Mr, Mf⟩, Mfk, Mfl, Mb, Ms, Mtr⟩, ⟨_, _, _⟩)) := (show MsgIn w1 (wr.drewN nq).heap.size (⟨⟨Mm, Mt, Mk, Mn, Mr, Mf⟩, Mfk, Mfl, Mb, Ms, Mtr⟩, ⟨_, _, _⟩) from ⟨of1, oi1, ot1⟩); clear hb of1 oi1 ot1; clear y0 y1 y2 y3 y4 y5 y6 y7) | (at_builtin; refine wpList_push_msg rfl _ _ rfl rfl (HQ1.out.call ((Below.refl w1.heap.size w1).alloc (Nat.le_refl _) _)).o _ (HY1.out.call ((Below.refl w1.heap.size w1).alloc (Nat.le_refl _) _)) rfl (by simp) (by have := HLL.out; have := HAT.out; have := HX.out; omega) (HQ1.out.call ((Below.refl w1.heap.size w1).alloc (Nat.le_refl _) _)).b.size ?_; intro p4 c4 w4 ho4 hg4 hb4; have HQ4 := Lib.hid ((HQ1.out.call ((Below.refl w1.heap.size w1).alloc (Nat.le_refl _) _)).push _ ((HY1.out.call ((Below.refl w1.heap.size w1).alloc (Nat.le_refl _) _)).lower (HQN.out nq).b.size) ho4 hg4); have KW4 := Lib.hid ((HQ1.out.call ((Below.refl w1.heap.size w1).alloc (Nat.le_refl _) _)).apart hg4 (Blk.new w1 #[.string Mm, .string Mt, .int .i64 Mk, .int .i64 Mn, .string Mr, .slice fp Mf.length fc, .int .i64 Mfk, .int .i64 Mfl, .string (strL Mb), .slice zp Ms.length zc, .slice tp Mtr.length tc, .int .i64 ((at_ : Int) + (u : Int))] 72) (by decide)); clear ho4 hg4 hb4; have k0 := KW4.out.cell 0; have k1 := KW4.out.cell 1; have k2 := KW4.out.cell 2; have k3 := KW4.out.cell 3; have k4 := KW4.out.cell 4; have k5 := KW4.out.cell 5; have k6 := KW4.out.cell 6; have k7 := KW4.out.cell 7; have k8 := KW4.out.cell 8; have k9 := KW4.out.cell 9; have k10 := KW4.out.cell 10; have k11 := KW4.out.cell 11; simp at k0 k1 k2 k3 k4 k5 k6 k7 k8 k9 k10 k11) | (go_at_call 34; refine (mbehind_whole _ _ _ _ _ _ _ _ _ _ _ _ _).mono ?_; rintro e5 w5 ⟨rfl, hb⟩; have HQ5 := Lib.hid (HQ4.out.call hb); have KW5 := Lib.hid (KW4.out.call hb); clear hb; clear k0 k1 k2 k3 k4 k5 k6 k7 k8 k9 k10 k11; have k3 := KW5.out.cell 3; simp at k3))
          go_roundw
          case rel =>
            have h1 := HU.out.1
            have h2 := HU.out.2
            have h3 := HFF.out
            have h4 := HLL.out
            have h5 := HAT.out
            have h7 := HLT.out
            rw [List.length_drop] at h2
            have h6 := Lib.size_eq x
            refine ⟨_, _, at_ + u, i, f, rfl, by simp, (by first | rfl | rw [hw9]), by omega, by omega, by omega, by rw [List.length_append]; simp only [List.length_cons, List.length_nil]; omega, ?_, HQ5.out⟩
            have e9 : x.data.toList.drop (at_ + u) = (x.data.toList.drop at_).drop u := by rw [List.drop_drop]
            rw [List.map_append, e9, HDR.out]
            have := HRR.out
            try dsimp only at this
            rw [if_neg (show ¬ 199 < Mn by omega)] at this
            exact this
          case measure =>
            have h1 := HU.out.1
            have h2 := HU.out.2
            have h6 := Lib.size_eq x
            rw [List.length_drop] at h2
            simp [intOf]
            omega
    · have hd1 : decide ((i : Int) < (ms.length : Int)) = false := decide_eq_false (by omega)
      have hd2 : decide (i < ms.length) = false := decide_eq_false hlt
      have z0 := HQ.out.t.cell 0; have z1 := HQ.out.t.cell 1; have z2 := HQ.out.t.cell 2
      simp at z0 z1 z2
      have q0 := HQ.out.t.froz 0; have q1 := HQ.out.t.froz 1; have q2 := HQ.out.t.froz 2
      have hnil : ms.drop i = [] := List.drop_of_length_le (by omega)
      rw [hnil, respsP] at hr
      have hxl := Lib.size_eq x
      clear y0 y1 y2 y3 y4 y5 y6 y7
      by_cases hend : at_ < x.size
      · have he1 : decide (at_ < x.size) = true := decide_eq_true hend
        have he2 : decide ((at_ : Int) < (x.size : Int)) = true := decide_eq_true (by omega)
        have hne : x.data.toList.drop at_ ≠ [] := by
          intro e
          have := congrArg List.length e
          simp at this
          omega
        simp only [if_pos hne] at hr
        have HRR := Lib.hid hr
        clear hr hq hne hxl hnil hi hf hll
        go_wp2_with fail
        have hRR := HRR.out
        subst hRR
        obtain ⟨g1, g2, g3⟩ := HQ.out.tail (.int .i64 3) (.int .i64 (at_ : Int)) (.int .i64 0)
        exact bodyPost_ret (results_tc Tryz.results14 _ _ _ _ _ rfl (run_loadVar_row _ _ _ _ _ _ _ (tail_set3 HQ.out.t _ _ _) Tryz.underlying31 rfl (by kernel_rfl))) rfl ⟨_, l, rfl, rfl, g1, g2, g3⟩
      · have he1 : decide (at_ < x.size) = false := decide_eq_false hend
        have he2 : decide ((at_ : Int) < (x.size : Int)) = false := decide_eq_false (by omega)
        have hne : x.data.toList.drop at_ = [] := List.drop_of_length_le (by omega)
        simp only [if_neg (show ¬ (x.data.toList.drop at_ ≠ []) from fun h => h hne)] at hr
        have HRR := Lib.hid hr
        clear hr hq hne hxl hnil hi hf hll
        go_wp2_with fail
        have hRR := HRR.out
        subst hRR
        obtain ⟨g1, g2, g3⟩ := HQ.out.tail (.int .i64 0) (.int .i64 (at_ : Int)) (.int .i64 0)
        exact bodyPost_ret (results_tc Tryz.results14 _ _ _ _ _ rfl (run_loadVar_row _ _ _ _ _ _ _ (tail_set3 HQ.out.t _ _ _) Tryz.underlying31 rfl (by kernel_rfl))) rfl ⟨_, l, rfl, rfl, g1, g2, g3⟩
end Go.Proofs.YteloccgdafphfaaGreatDoor
-- MsW
namespace Go.Proofs.YteloccgdafphfaaGreatDoor
open Go.RowKit
def livX : List UInt8 := [71, 69, 84, 32, 47, 32, 72, 84, 84, 80, 47, 49, 46, 49, 13, 10, 72, 111, 115, 116, 58, 32, 97, 13, 10, 13, 10, 71]
def livY : List UInt8 := [72, 84, 84, 80, 47, 49, 46, 49, 32, 50, 48, 48, 32, 79, 75, 13, 10, 67, 111, 110, 116, 101, 110, 116, 45, 76, 101, 110, 103, 116, 104, 58, 32, 49, 13, 10, 13, 10, 97, 98, 99]
def wideL : Lm := ⟨65536, 1000, 100, 0, 0⟩
def livA : List MsgP × (Int × Nat × Int) := reqsP wideL false 29 livX 0 []
def livB : List MsgP × (Int × Nat × Int) := respsP wideL true 42 [⟨#[71, 69, 84]⟩] livY 0 []
theorem livA_t : livA.2 = (1, 27, 0) := by kernel_rfl
theorem livB_t : livB.2 = (3, 39, 0) := by kernel_rfl
theorem livA_n : livA.1.map (·.hd.m) = [⟨#[71, 69, 84]⟩] := by kernel_rfl
theorem livB_n : livB.1.map (·.body) = [[97]] := by kernel_rfl
theorem one_map {α β γ : Type} {l : List α} {r : List β} {f : α → β} {g : β → γ} {x : γ} (h : l.map f = r) (h2 : r.map g = [x]) : ∃ q, l = [q] ∧ g (f q) = x := by
  subst h
  rw [List.map_map] at h2
  cases l with
  | nil => cases h2
  | cons q t =>
    cases t with
    | nil => exact ⟨q, rfl, by simpa using h2⟩
    | cons q2 t => simp at h2
theorem liv_req {w : World} {mx : Int} (hm : w.cell? ⟨0, 0, none⟩ = some (.int .i64 mx)) :
    Calls Tryz.prog 11 #[.string ⟨#[71, 69, 84, 32, 47, 32, 72, 84, 84, 80, 47, 49, 46, 49, 13, 10, 72, 111, 115, 116, 58, 32, 97, 13, 10, 13, 10, 71]⟩, .bool false, .agg #[.int .i64 65536, .int .i64 1000, .int .i64 100, .int .i64 0, .int .i64 0]] w fun e w' => ∃ b off c, e = .returned (.tuple #[.slice (some ⟨b, off, none⟩) 1 c, .agg #[.int .i64 1, .int .i64 27, .int .i64 0]]) ∧ w'.cell? ⟨b, off, none⟩ = some (.string ⟨#[71, 69, 84]⟩) ∧ Below w.heap.size w w' := by
  have h := mreqs_any ⟨#[71, 69, 84, 32, 47, 32, 72, 84, 84, 80, 47, 49, 46, 49, 13, 10, 72, 111, 115, 116, 58, 32, 97, 13, 10, 13, 10, 71]⟩ false 65536 1000 100 0 0 w (by decide) hm (by decide) (R := livA) rfl
  refine h.mono ?_
  rintro e w' ⟨v, l, h1, h2, h3, h4, h5⟩
  obtain ⟨q, rfl, hq⟩ := one_map h2 livA_n
  obtain ⟨p, c, rfl, hc, _⟩ := h3.msgs h4
  obtain ⟨b, off, rfl, h6⟩ := hc 0 (by simp)
  have h7 := h6 0 (by decide)
  refine ⟨b, off, c, ?_, ?_, h5⟩
  · rw [h1, show livA.2.1 = 1 from congrArg (·.1) livA_t, show livA.2.2.1 = 27 from congrArg (·.2.1) livA_t, show livA.2.2.2 = 0 from congrArg (·.2.2) livA_t]
    rfl
  · have h8 : (msgL q)[0]? = some (.string q.1.hd.m) := rfl
    have h9 := h7.trans h8
    rw [hq] at h9
    simpa using h9
theorem liv_resp {w : World} {mx : Int} (hm : w.cell? ⟨0, 0, none⟩ = some (.int .i64 mx)) (vm : Value) (hv : Strs w vm [⟨#[71, 69, 84]⟩]) :
    Calls Tryz.prog 14 #[.string ⟨#[72, 84, 84, 80, 47, 49, 46, 49, 32, 50, 48, 48, 32, 79, 75, 13, 10, 67, 111, 110, 116, 101, 110, 116, 45, 76, 101, 110, 103, 116, 104, 58, 32, 49, 13, 10, 13, 10, 97, 98, 99]⟩, .bool true, vm, .agg #[.int .i64 65536, .int .i64 1000, .int .i64 100, .int .i64 0, .int .i64 0]] w fun e w' => ∃ b off c, e = .returned (.tuple #[.slice (some ⟨b, off, none⟩) 1 c, .agg #[.int .i64 3, .int .i64 39, .int .i64 0]]) ∧ w'.cell? ⟨b, off + 8, none⟩ = some (.string ⟨#[97]⟩) ∧ Below w.heap.size w w' := by
  have h := mresps_any ⟨#[72, 84, 84, 80, 47, 49, 46, 49, 32, 50, 48, 48, 32, 79, 75, 13, 10, 67, 111, 110, 116, 101, 110, 116, 45, 76, 101, 110, 103, 116, 104, 58, 32, 49, 13, 10, 13, 10, 97, 98, 99]⟩ true vm [⟨#[71, 69, 84]⟩] 65536 1000 100 0 0 w hv (by decide) (by decide) hm (by decide) (R := livB) rfl
  refine h.mono ?_
  rintro e w' ⟨v, l, h1, h2, h3, h4, h5⟩
  obtain ⟨q, rfl, hq⟩ := one_map h2 livB_n
  obtain ⟨p, c, rfl, hc, _⟩ := h3.msgs h4
  obtain ⟨b, off, rfl, h6⟩ := hc 0 (by simp)
  have h7 := h6 8 (by decide)
  refine ⟨b, off, c, ?_, ?_, h5⟩
  · rw [h1, show livB.2.1 = 3 from congrArg (·.1) livB_t, show livB.2.2.1 = 39 from congrArg (·.2.1) livB_t, show livB.2.2.2 = 0 from congrArg (·.2.2) livB_t]
    rfl
  · have h8 : (msgL q)[8]? = some (.string (strL q.1.body)) := rfl
    have h9 := h7.trans h8
    rw [hq] at h9
    rw [Nat.zero_mul, Nat.add_zero] at h9
    exact h9
set_option maxRecDepth 100000 in
theorem mwide_any (w : World) : Calls Tryz.prog 30 #[] w fun e w' => e = .returned (.agg #[.int .i64 65536, .int .i64 1000, .int .i64 100, .int .i64 0, .int .i64 0]) ∧ Below w.heap.size w w' := by
  go_enter Tryz.func30, Tryz.ntmps30
  go_wp2_with fail
  exact bodyPost_ret (results_cell_row Tryz.results30 _ _ _ _ _ _ _ rfl (heap_alloc_new _ _) Tryz.underlying24 rfl (by kernel_rfl)) rfl ⟨rfl, (Below.refl _ _).alloc (Nat.le_refl _) _⟩
set_option maxRecDepth 100000 in
theorem mlives_any {w : World} {mx : Int} (hmx : w.cell? ⟨0, 0, none⟩ = some (.int .i64 mx)) : Calls Tryz.prog 10 #[] w fun e w' => e = .returned (.bool true) ∧ Below w.heap.size w w' := by
  have h0 : 0 < w.heap.size := World.block_lt_of_cell? w _ hmx
  have HMX := Lib.hid hmx
  have H0 := Lib.hid h0
  clear hmx h0
  go_enter Tryz.func10, Tryz.ntmps10
  go_wp2_with fail
  refine (mwide_any _).mono ?_
  rintro e1 w1 ⟨rfl, hb1⟩
  have HB1 := Lib.hid hb1
  clear hb1
  go_wp2_with fail
  refine (liv_req (mx_below' HMX.out H0.out HB1.out)).mono ?_
  rintro e2 w2 ⟨b2, o2, c2, rfl, k2, hb2⟩
  have HB2 := Lib.hid (HB1.out.trans (hb2.mono HB1.out.size))
  clear hb2
  go_wp2_with fail
  refine (mwide_any _).mono ?_
  rintro e3 w3 ⟨rfl, hb3⟩
  have HT3 := Lib.hid (((Blk.new w2 #[.int .i64 1, .int .i64 27, .int .i64 0] 31).alloc (.cells #[.string ⟨#[71, 69, 84]⟩] 9)).call hb3)
  have HG3 := Lib.hid ((Blk.new' (w := w2.alloc (.cells #[.int .i64 1, .int .i64 27, .int .i64 0] 31)) (cs := #[.string ⟨#[71, 69, 84]⟩]) (t := 9) (n := w2.heap.size + 1) (by simp)).call hb3)
  have HB3 := Lib.hid ((HB2.out.trans (bal2 w2 (.cells #[.int .i64 1, .int .i64 27, .int .i64 0] 31) (.cells #[.string ⟨#[71, 69, 84]⟩] 9) |>.mono HB2.out.size)).trans (hb3.mono (by have := HB2.out.size; simp; omega)))
  have k3 : w3.cell? ⟨b2, o2, none⟩ = some (.string ⟨#[71, 69, 84]⟩) := ((bcell ((bal2 w2 _ _).trans (hb3.mono (by simp; omega)))) b2 _ (World.block_lt_of_cell? _ _ k2)).trans k2
  clear hb3 k2
  go_wp2_with fail
  refine (liv_resp (mx_below' HMX.out H0.out HB3.out) _ ⟨_, _, rfl, fun i hi => ⟨w2.heap.size + 1, 0, rfl, ?_⟩⟩).mono ?_
  · have : i = 0 := by simpa using hi
    subst this
    exact HG3.out.cell 0
  rintro e4 w4 ⟨b4, o4, c4, rfl, k4, hb4⟩
  have HT4 := Lib.hid ((HT3.out.call hb4).alloc (.cells #[.int .i64 3, .int .i64 39, .int .i64 0] 31))
  have HU4 := Lib.hid (Blk.new w4 #[.int .i64 3, .int .i64 39, .int .i64 0] 31)
  have HB4 := Lib.hid ((HB3.out.trans (hb4.mono HB3.out.size)).alloc (Nat.le_trans HB3.out.size hb4.size) (.cells #[.int .i64 3, .int .i64 39, .int .i64 0] 31))
  have k5 : (w4.alloc (.cells #[.int .i64 3, .int .i64 39, .int .i64 0] 31)).cell? ⟨b2, o2, none⟩ = some (.string ⟨#[71, 69, 84]⟩) := ((bcell (hb4.alloc hb4.size _)) b2 _ (World.block_lt_of_cell? _ _ k3)).trans k3
  have k6 : (w4.alloc (.cells #[.int .i64 3, .int .i64 39, .int .i64 0] 31)).cell? ⟨b4, o4 + 8, none⟩ = some (.string ⟨#[97]⟩) := ((bcell ((Below.refl w4.heap.size w4).alloc (Nat.le_refl _) _)) b4 _ (World.block_lt_of_cell? _ _ k4)).trans k4
  clear hb4 k3 k4
  have t0 := HT4.out.cell 0; have t1 := HT4.out.cell 1; have t2 := HT4.out.cell 2
  have u0 := HU4.out.cell 0; have u1 := HU4.out.cell 1; have u2 := HU4.out.cell 2
  simp at t0 t1 t2 u0 u1 u2
  go_wp2_with fail
  go_ret
  exact ⟨rfl, HB4.out⟩
/-- Few. -/
def fewC (x : ByteArray) (ms : List ByteArray) : Bool := decide (x.size ≤ 2000) && (decide (ms.length ≤ 30) && ms.all fun m => decide (m.size ≤ 60))
theorem fewC_spec {x : ByteArray} {ms : List ByteArray} (h : fewC x ms = true) : x.size ≤ 2000 ∧ ms.length ≤ 30 ∧ ∀ m ∈ ms, m.size ≤ 60 := by
  unfold fewC at h
  rw [Bool.and_eq_true, Bool.and_eq_true, decide_eq_true_eq, decide_eq_true_eq, List.all_eq_true] at h
  exact ⟨h.1, h.2.1, fun m hm => by simpa using h.2.2 m hm⟩
set_option maxRecDepth 100000 in
set_option maxHeartbeats 4000000 in
theorem mfew_any (x : ByteArray) (closed : Bool) (vm : Value) (ms : List ByteArray) (a b c d e' cut : Int) (w : World) (hv : Strs w vm ms) (hml : ms.length ≤ 9223372036854775807) :
    Calls Tryz.prog 9 #[.agg #[.string x, .bool closed, vm, .int .i64 a, .int .i64 b, .int .i64 c, .int .i64 d, .int .i64 e', .int .i64 cut]] w fun e w' => e = .returned (.bool (fewC x ms)) ∧ Below w.heap.size w w' := by
  obtain ⟨F, hF⟩ : ∃ F, F = fewC x ms := ⟨_, rfl⟩
  rw [← hF]
  unfold fewC at hF
  obtain ⟨p, cp, rfl, hc⟩ := hv
  have HC := Lib.hid hc
  have HF := Lib.hid hF
  have HB0 := Lib.hid ((Below.refl w.heap.size w).alloc (Nat.le_refl _) (.cells #[.string x, .bool closed, .slice p ms.length cp, .int .i64 a, .int .i64 b, .int .i64 c, .int .i64 d, .int .i64 e', .int .i64 cut] 26))
  clear hc hF
  by_cases h1 : x.size ≤ 2000
  · have d1 : decide ((2000 : Int) < (x.size : Int)) = false := decide_eq_false (by omega)
    have d1' : decide (2000 < x.size) = false := decide_eq_false (by omega)
    by_cases h2 : ms.length ≤ 30
    · have d2 : decide ((30 : Int) < (ms.length : Int)) = false := decide_eq_false (by omega)
      have d2' : decide (30 < ms.length) = false := decide_eq_false (by omega)
      go_enter Tryz.func9, Tryz.ntmps9
      go_wp2_with fail
      go_loopw [18] (fun i wr => ∃ k : Nat, k ≤ ms.length ∧ i = .int .i64 k ∧ ((ms.take k).all fun m => decide (m.size ≤ 60)) = true ∧ Below w.heap.size w wr) (fun i _ => ms.length - (intOf i).toNat)
      case atStart => exact ⟨0, by omega, rfl, rfl, HB0.out⟩
      case round =>
        obtain ⟨k, hk, rfl, hall, hbel⟩ := hrel
        have HL := Lib.hid hbel
        have HA := Lib.hid hall
        clear hbel hall
        by_cases hlt : k < ms.length
        · obtain ⟨bb, off, rfl, hcell⟩ := HC.out k hlt
          obtain ⟨m, hm⟩ : ∃ m, m = ms[k] := ⟨_, rfl⟩
          rw [← hm] at hcell
          have h3 := ((bcell HL.out) bb _ (World.block_lt_of_cell? w _ hcell)).trans hcell
          have HM := Lib.hid (show ∀ h : k < ms.length, m = ms[k] from fun _ => hm)
          have hki : (k : Int) < ms.length := by omega
          have HLT := Lib.hid hlt
          clear hcell hm
          by_cases h4 : m.size ≤ 60
          · have d4 : decide ((60 : Int) < (m.size : Int)) = false := decide_eq_false (by omega)
            have d4' : decide (60 < m.size) = false := decide_eq_false (by omega)
            have HH4 := Lib.hid h4
            clear h4
            go_wp2_with fail
            go_roundw
            case rel =>
              refine ⟨k + 1, HLT.out, by go_num, ?_, HL.out⟩
              rw [List.take_succ_eq_append_getElem HLT.out, List.all_append, HA.out, ← HM.out HLT.out]
              simpa using HH4.out
            case measure => simp [intOf]; omega
          · have d4 : decide ((60 : Int) < (m.size : Int)) = true := decide_eq_true (by omega)
            have d4' : decide (60 < m.size) = true := decide_eq_true (by omega)
            have HN : Hid (F = false) := by
              show F = false
              rw [HF.out, Bool.eq_false_iff]
              intro h
              rw [Bool.and_eq_true, Bool.and_eq_true, List.all_eq_true] at h
              have := h.2.2 m (by rw [HM.out hlt]; exact List.getElem_mem hlt)
              simp only [decide_eq_true_eq] at this
              exact h4 this
            clear h4
            go_wp2_with fail
            go_ret
            rw [HN.out]
            exact ⟨rfl, HL.out⟩
        · have hki : ¬ (k : Int) < ms.length := by omega
          have HT : Hid (F = true) := by
            show F = true
            have hh := HA.out
            rw [List.take_of_length_le (by omega)] at hh
            rw [HF.out, decide_eq_true h1, decide_eq_true h2, hh]
            rfl
          go_wp2_with fail
          go_ret
          rw [HT.out]
          exact ⟨rfl, HL.out⟩
    · have d2 : decide ((30 : Int) < (ms.length : Int)) = true := decide_eq_true (by omega)
      have d2' : decide (30 < ms.length) = true := decide_eq_true (by omega)
      have HN : Hid (F = false) := by show F = false; rw [HF.out, decide_eq_false h2]; simp
      go_enter Tryz.func9, Tryz.ntmps9
      go_wp2_with fail
      go_ret
      rw [HN.out]
      exact ⟨rfl, HB0.out⟩
  · have d1 : decide ((2000 : Int) < (x.size : Int)) = true := decide_eq_true (by omega)
    have d1' : decide (2000 < x.size) = true := decide_eq_true (by omega)
    have HN : Hid (F = false) := by show F = false; rw [HF.out, decide_eq_false h1]; simp
    go_enter Tryz.func9, Tryz.ntmps9
    go_wp2_with fail
    go_ret
    rw [HN.out]
    exact ⟨rfl, HB0.out⟩
end Go.Proofs.YteloccgdafphfaaGreatDoor

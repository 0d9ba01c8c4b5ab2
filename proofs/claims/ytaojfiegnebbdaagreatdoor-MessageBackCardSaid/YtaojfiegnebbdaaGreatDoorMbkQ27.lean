/- Texts packed for one claim, 27 of 52: BdI BdJ BdK BdO BdL BdM RbP BdN. -/
import Derived.Test.YtaojfiegnebbdaaGreatDoorMbkQ19
import Derived.Test.YtaojfiegnebbdaaGreatDoorMbkQ26
import Derived.Test.YtaojfiegnebbdaaGreatDoorMbkQ18
import Derived.Test.YtaojfiegnebbdaaGreatDoorMbkQ13
import Derived.Deep.Cut
set_option maxRecDepth 100000
set_option maxHeartbeats 16000000
set_option linter.unusedSimpArgs false
set_option linter.unusedVariables false
-- BdI
namespace Go.Proofs.YtaojfiegnebbdaaGreatDoor
open Go.RowKit
theorem lnFeed_bad : ∀ (l : List UInt8) (s : LnS), s.e = 0 → s.whole = false → (lnFeed l s).1.e ≠ 0 → (lnFeed l s).1.whole = false
 | [], s, he, _, h => absurd he h
 | c :: r, s, he, hw, h => by
   rw [lnFeed, if_neg (by rw [hw, he]; simp)] at h ⊢
   by_cases h2 : (seeP s c).2 = 0
   ·rw [if_pos h2] at h ⊢
    cases hw2 : (seeP s c).1.whole with
    | true => exact absurd (congrArg (fun q : LnS × Nat => q.1.e) (lnFeed_stop r { (seeP s c).1 with e := 0 } (Or.inl hw2))) h
    | false => exact lnFeed_bad r _ rfl hw2 h
   ·rw [if_neg h2]
    show (seeP s c).1.whole = false
    unfold seeP at h2 ⊢
    split
    ·exact hw
    ·rename_i h3
     rw [if_neg h3] at h2
     split
     ·exact hw
     ·rename_i h4
      rw [if_neg h4] at h2
      split <;> rename_i h5
      ·rw [if_pos h5] at h2; exact absurd rfl h2
      ·rw [if_neg h5] at h2
       split <;> rename_i h6
       ·rw [if_pos h6] at h2; exact absurd rfl h2
       ·rw [if_neg h6] at h2; exact absurd rfl h2
theorem BdAt.ofLn {w : World} {D n0 : Nat} {m : Lm} {s : BdS} {V : BdV} (h : BdAt w D n0 m s V) (hl : s.lined = true) : OfTy w (LnP V.gl V.vl) [140, 5] := fun j hj => by
 rcases hj with rfl | hj
 ·exact ⟨_, _, List.mem_cons_self, (h.r.l hl).l.b⟩
 ·obtain ⟨_, cs, hb⟩ := own_ty (h.r.l hl).l.o j hj
  exact ⟨_, _, List.mem_cons_of_mem _ List.mem_cons_self, hb⟩
theorem NextAt.lined {w w1 : World} {D : Nat} {md : Md} {v : Value} (h : NextAt w D md v) (hm : md.lined = true) : NextAt w1 D md v := by
 cases md <;> first | exact h | cases hm
theorem BdAt.fed {w w1 : World} {D n0 : Nat} {m : Lm} {s : BdS} {V : BdV} (h : BdAt w D n0 m s V) (hl : s.lined = true) {v' : Value} {ln' : LnS} (hat : LnAt w1 V.gl (V.gl + 1) v' ln') (t : Touch (LnP V.gl V.vl) w w1) : BdAt w1 D n0 m { s with ln := ln' } { V with vl := v' } := by
 have hP := h.ofLn hl
 have hl' : (s.opens && s.md.lined) = true := hl
 rw [Bool.and_eq_true] at hl'
 exact ⟨h.k.touch t (hP.not h.k (by decide)), h.d, own_touch h.o t (hP.own h.o (by decide)), ⟨own_touch h.r.a t (hP.own h.r.a (by decide)), own_touch h.r.t t (hP.own h.r.t (by decide)), fun e => (h.r.n e).lined hl'.2, fun _ => ⟨(h.r.l hl).p, (h.r.l hl).n, hat⟩, fun e => absurd (show s.lined = false from e) (by rw [hl]; decide), h.r.f⟩⟩
theorem BdGo.fed {w w1 : World} {D : Nat} {V : BdV} {v' : Value} (t : Touch (LnP V.gl V.vl) w w1) (hv : v'.ownBlock = V.vl.ownBlock ∨ ∀ k, v'.ownBlock = some k → w.heap.size ≤ k) : BdGo w w1 D V { V with vl := v' } := by
 refine ⟨t.mono (fun j _ e => ?_), fun j hj e => ?_⟩
 ·rcases e with e | e
  ·exact Or.inr (Or.inr (Or.inr (Or.inl e)))
  ·exact Or.inr (Or.inr (Or.inr (Or.inr e)))
 ·rcases e with e | e | e | e | e
  ·exact Or.inl e
  ·exact Or.inr (Or.inl e)
  ·exact Or.inr (Or.inr (Or.inl e))
  ·exact Or.inr (Or.inr (Or.inr (Or.inl e)))
  ·rcases hv with hv | hv
   ·exact Or.inr (Or.inr (Or.inr (Or.inr (hv ▸ e))))
   ·have := hv j e
    omega
theorem LnAt.shut {w w1 : World} {D n0 : Nat} {m : Lm} {s : BdS} {V V1 : BdV} (h : BdAt w D n0 m s V) (g : BdGo w w1 D (V.shut D) V1) {gl B : Nat} {v : Value} {ln : LnS} (hat : LnAt w gl B v ln) : LnAt w1 gl B v ln := by
 have hP : OfTy w (BdF D (V.shut D)) [100, 77, 9] := fun j hj => by
  rcases hj with rfl | hj | hj | hj | hj
  ·exact ⟨_, _, by decide, h.k⟩
  ·obtain ⟨_, cs, hb⟩ := own_ty h.o j hj
   exact ⟨_, _, by decide, hb⟩
  ·obtain ⟨_, cs, hb⟩ := own_ty h.r.a j hj
   exact ⟨_, _, by decide, hb⟩
  ·exact ⟨_, _, by decide, (show j = D from hj) ▸ h.k⟩
  ·cases hj
 exact hat.touch g.t (hP.not hat.b (by decide)) (hP.own hat.o (by decide))
theorem bwhole_any {w : World} {D n0 : Nat} {m : Lm} {s : BdS} {V : BdV} (h : BdAt w D n0 m s V) (hl : s.out.length ≤ 1000000) (hld : s.lined = true) (hok : LnOk s.ln) (x : ByteArray) (hx : x.size ≤ 1000000) :
 Calls Tryz.prog 133 #[.pointer (some ⟨D, 0, none⟩), .string x] w fun e w' => e = .returned (.tuple #[.int .i64 (s.whole x.data.toList).2.1, .bool (s.whole x.data.toList).2.2]) ∧ ∃ V', BdAt w' D n0 m (s.whole x.data.toList).1 V' ∧ BdGo w w' D V V' := by
 obtain ⟨R, hR⟩ : ∃ R, R = lnFeed x.data.toList s.ln := ⟨_, rfl⟩
 have y8 : w.cell? ⟨D, 8, none⟩ = some (.pointer (some ⟨V.gl, 0, none⟩)) := by rw [← (h.r.l hld).p]; exact h.k.cell 8
 have HF := lH (lfeed_any (h.r.l hld).l hok x hx)
 rw [← hR] at HF
 have hw : s.whole x.data.toList = (if R.1.e = 0 then { s with ln := R.1 } else ({ s with ln := R.1 } : BdS).wrong R.1.e, R.2, R.1.whole) := by rw [hR]; rfl
 rw [hw]
 have H := lH h
 have HL := lH hl
 have HD := lH hld
 have HP := lH ((h.r.l hld).p)
 clear h hl hld hok hw hR
 by_cases hz : R.1.e = 0
 ·rw [if_pos hz]
  rw [hz] at HF
  go_enter Tryz.func133, Tryz.ntmps133
  go_wp2_with (first | (go_at_call 96; refine HF.out.mono ?_; rintro e1 w1 ⟨rfl, v1, h1, t1, b1⟩; have A1 := lH (H.out.fed HD.out h1 t1); have G1 := lH (BdGo.fed (V := V) (D := D) t1 b1); have y8b : w1.cell? ⟨D, 8, none⟩ = some (.pointer (some ⟨V.gl, 0, none⟩)) := (A1.out.k.cell 8).trans (congrArg some HP.out); have H1 := lH h1; clear h1 t1 b1) | (go_at_call 97; refine (lwhole_any H1.out).mono ?_; rintro e2 w2 ⟨rfl, rfl⟩))
  go_ret2
  exact ⟨rfl, _, A1.out, G1.out⟩
 ·rw [if_neg hz]
  have hz2 : (R.1.e != 0) = true := by rw [bne_iff_ne]; exact hz
  have hz3 : (R.1.e == 0) = false := by rw [beq_eq_false_iff_ne]; exact hz
  go_enter Tryz.func133, Tryz.ntmps133
  go_wp2_with (first | (go_at_call 96; refine HF.out.mono ?_; rintro e1 w1 ⟨rfl, v1, h1, t1, b1⟩; have A1 := lH (H.out.fed HD.out h1 t1); have G1 := lH (BdGo.fed (V := V) (D := D) t1 b1); have H1 := lH h1; clear h1 t1 b1) | (go_at_call 62; refine (bwrong_fine A1.out HL.out _ hz).mono ?_; rintro e2 w2 ⟨rfl, vo, h2, g2⟩; have y8b : w2.cell? ⟨D, 8, none⟩ = some (.pointer (some ⟨V.gl, 0, none⟩)) := (h2.k.cell 8).trans (congrArg some HP.out); have H2 := lH (LnAt.shut A1.out g2 H1.out); have A2 := lH h2; have G2 := lH g2.unshut; clear h2 g2) | (go_at_call 97; refine (lwhole_any H2.out).mono ?_; rintro e3 w3 ⟨rfl, rfl⟩))
  go_ret2
  exact ⟨rfl, _, A2.out, G1.out.trans G2.out⟩
end Go.Proofs.YtaojfiegnebbdaaGreatDoor
-- BdJ
namespace Go.Proofs.YtaojfiegnebbdaaGreatDoor
open Go.RowKit
theorem chunkP_range (l : List UInt8) : 0 ≤ (chunkP l).1 ∧ (chunkP l).1 ≤ 2147483647 ∧ 0 ≤ (chunkP l).2 ∧ (chunkP l).2 ≤ 5 := by
 have hn : ∀ l, 0 ≤ (numRes l 16 2147483647).1 ∧ (numRes l 16 2147483647).1 ≤ 2147483647 ∧ 0 ≤ (numRes l 16 2147483647).2 ∧ (numRes l 16 2147483647).2 ≤ 5 := fun l => by
  unfold numRes
  split
  ·decide
  ·split
   ·decide
   ·split
    ·rename_i h1 h2 h3
     exact ⟨numV_nn (by decide) l (by simpa using h2), h3, Int.le_refl 0, (by decide : (0 : Int) ≤ 5)⟩
    ·decide
 rw [chunkP_eq]
 split
 ·decide
 ·split
  ·decide
  ·exact hn _
def BdS.read (s : BdS) (L : LnS) : BdS := { s with ln := { L with line := [], whole := false } }
theorem bStep_size {m : Lm} {s : BdS} {x : List UInt8} (hm : s.md = .size) : bStep m s x = (if (s.whole x).2.2 = false then ((s.whole x).1, (s.whole x).2.1)
 else (if (chunkP (s.whole x).1.ln.line).2 ≠ 0 then ((s.whole x).1.read (s.whole x).1.ln).wrong (chunkP (s.whole x).1.ln.line).2 else if (chunkP (s.whole x).1.ln.line).1 = 0 then { (s.whole x).1.read (s.whole x).1.ln with ln := ln0 m.head, md := .trailer } else { (((s.whole x).1.read (s.whole x).1.ln).put ⟨2, (chunkP (s.whole x).1.ln.line).1, ⟨#[]⟩⟩) with left := (chunkP (s.whole x).1.ln.line).1, md := .data }, (s.whole x).2.1)) := by
 unfold bStep
 rw [hm]
 rfl
theorem whole_eq {s : BdS} {x : List UInt8} (he : s.ln.e = 0) (hw : s.ln.whole = false) (h : (s.whole x).2.2 = true) : (s.whole x).1 = { s with ln := (lnFeed x s.ln).1 } ∧ (s.whole x).1.ln.whole = true := by
 have h1 : (lnFeed x s.ln).1.whole = true := h
 have h2 : (lnFeed x s.ln).1.e = 0 := by
  by_cases h3 : (lnFeed x s.ln).1.e = 0
  ·exact h3
  ·have := lnFeed_bad x s.ln he hw h3
   rw [h1] at this
   cases this
 have h4 : (s.whole x).1 = { s with ln := (lnFeed x s.ln).1 } := by
  unfold BdS.whole
  simp only
  rw [if_pos h2]
 exact ⟨h4, by rw [h4]; exact h1⟩
theorem touch_ln {w w1 : World} {g : Nat} {v : Value} (t : Touch (fun j => j = g) w w1) : Touch (LnP g v) w w1 := t.mono (fun _ _ e => Or.inl e)
theorem to_data {w : World} {D n0 : Nat} {m : Lm} {s : BdS} {V : BdV} (h : BdAt w D n0 m s V) {c : Int} (_ho : s.opens = true) :
 BdAt ((w.setCell ⟨D, 7, none⟩ (.int .i64 c)).setCell ⟨D, 5, none⟩ (.func (.func 136) #[.pointer (some ⟨D, 0, none⟩)] #[])) D n0 m { s with left := c, md := .data } { V.shut D with vn := .func (.func 136) #[.pointer (some ⟨D, 0, none⟩)] #[] } ∧
 BdGo w ((w.setCell ⟨D, 7, none⟩ (.int .i64 c)).setCell ⟨D, 5, none⟩ (.func (.func 136) #[.pointer (some ⟨D, 0, none⟩)] #[])) D V { V.shut D with vn := .func (.func 136) #[.pointer (some ⟨D, 0, none⟩)] #[] } := by
 have T := (touchD w D 7 (.int .i64 c)).trans (touchD (w.setCell ⟨D, 7, none⟩ (.int .i64 c)) D 5 (.func (.func 136) #[.pointer (some ⟨D, 0, none⟩)] #[]))
 refine ⟨⟨(h.k.set 7 _).set 5 _, h.d, own_touch h.o T (fun k hk e => by obtain ⟨_, cs, hb⟩ := own_ty h.o k hk; exact h.k.ne hb (by decide) e.symm), ⟨own_touch h.r.a T (h.ofD.own h.r.a (by decide)), own_touch h.r.t T (h.ofD.own h.r.t (by decide)), fun _ => rfl, fun e => ?_, fun _ => ⟨rfl, rfl⟩, ⟨_, _, _, rfl⟩⟩⟩, ⟨T.mono (fun _ _ e => Or.inl e), fun _ _ e => (show BdF D (V.shut D) _ from e).shut⟩⟩
 simp [BdS.lined, Md.lined] at e
theorem bsize_any {w : World} {D n0 : Nat} {m : Lm} {s : BdS} {V : BdV} (h : BdAt w D n0 m s V) (hl : s.out.length ≤ 999998) (ho : s.opens = true) (hm : s.md = .size) (hok : LnOk s.ln) (he : s.ln.e = 0) (hw : s.ln.whole = false) (hh0 : 0 ≤ m.head) (hh1 : m.head ≤ 65536) (x : ByteArray) (hx : x.size ≤ 1000000) :
 Calls Tryz.prog 103 #[.pointer (some ⟨D, 0, none⟩), .string x] w fun e w' => e = .returned (.int .i64 (bStep m s x.data.toList).2) ∧ ∃ V', BdAt w' D n0 m (bStep m s x.data.toList).1 V' ∧ BdGo w w' D V V' := by
 have hld : s.lined = true := by unfold BdS.lined; rw [ho, hm]; rfl
 have HC := lH (bwhole_any h (by omega) hld hok x hx)
 rw [bStep_size hm]
 cases hwh : (s.whole x.data.toList).2.2 with
 | false =>
   rw [if_pos rfl]
   rw [hwh] at HC
   clear h hl ho hm hok he hw hld
   go_enter Tryz.func103, Tryz.ntmps103
   go_wp2_with (go_at_call 133; refine HC.out.mono ?_; rintro e1 w1 ⟨rfl, V1, h1, g1⟩; have H1 := lH h1; have G1 := lH g1; clear h1 g1)
   go_ret
   exact ⟨rfl, V1, H1.out, G1.out⟩
 | true =>
   rw [if_neg (by decide)]
   rw [hwh] at HC
   obtain ⟨hq1, hq2⟩ := whole_eq (x := x.data.toList) he hw hwh
   have hLok : LnOk (s.whole x.data.toList).1.ln := by rw [hq1]; exact lnFeed_ok _ _ hok
   have hso : (s.whole x.data.toList).1.out = s.out := by rw [hq1]
   have hso2 : (s.whole x.data.toList).1.opens = true := by rw [hq1]; exact ho
   have hsl : (s.whole x.data.toList).1.lined = true := by rw [hq1]; exact hld
   generalize (s.whole x.data.toList).1 = s1 at HC hq2 hLok hso hso2 hsl ⊢
   generalize (s.whole x.data.toList).2.1 = n at HC ⊢
   have hll : (strL s1.ln.line).size ≤ 999999 := by
    show s1.ln.line.toArray.size ≤ _
    have := hLok.t; have := hLok.m; have := hLok.l0
    simp
    omega
   have HP := lH (fun W => cparse_any (strL s1.ln.line) hll W)
   have hst : (strL s1.ln.line).data.toList = s1.ln.line := rfl
   rw [hst] at HP
   have HR := lH (chunkP_range s1.ln.line)
   obtain ⟨c1, c2, hc⟩ : ∃ c1 c2, chunkP s1.ln.line = (c1, c2) := ⟨_, _, rfl⟩
   rw [hc] at HP HR ⊢
   simp only at HP HR ⊢
   have HO := lH hso2
   have HS := lH hsl
   have HQ := lH hq2
   have HL := lH (show s1.out.length ≤ 999998 by rw [hso]; exact hl)
   clear h hl ho hm hok he hw hld hwh hq1 hq2 hLok hso hso2 hsl hll hst hc
   by_cases h2 : c2 = 0
   ·rw [if_neg (fun h => h h2)]
    subst h2
    by_cases h3 : c1 = 0
    ·rw [if_pos h3]
     subst h3
     have hmf : ∀ (fn : Fn) (first cap : Array Value) (W : World), (Instr.makeFunc fn first cap).run Tryz.prog W = .ok (.func fn first cap) W := fun _ _ _ _ => rfl
     go_enter Tryz.func103, Tryz.ntmps103
     go_wp2_with (first | (go_at_call 133; refine HC.out.mono ?_; rintro e1 w1 ⟨rfl, V1, h1, g1⟩; have y8 : w1.cell? ⟨D, 8, none⟩ = some (.pointer (some ⟨V1.gl, 0, none⟩)) := (h1.k.cell 8).trans (congrArg some (h1.r.l HS.out).p); have H1 := lH h1; have G1 := lH g1; clear h1 g1) | (go_at_call 99; refine (lline_any (H1.out.r.l HS.out).l HQ.out).mono ?_; rintro e2 w2 ⟨rfl, v2, h2, t2, b2⟩; have A2 := lH (H1.out.fed HS.out h2 (touch_ln t2)); have G2 := lH (BdGo.fed (V := V1) (D := D) (touch_ln t2) (Or.inl b2)); clear h2 t2 b2) | (go_at_call 134; refine (HP.out _).mono ?_; rintro e3 w3 ⟨rfl, b3⟩; have A3 := lH (A2.out.call b3); have G3 := lH ((G1.out.trans G2.out).trans (BdGo.of_below b3)); have y0 : w3.cell? ⟨D, 0, none⟩ = some (.int .i64 m.head) := A3.out.k.cell 0; clear b3) | (go_at_call 63; refine (lnew_any m.head hh0 hh1 _).mono ?_; rintro e4 w4 ⟨rfl, h4⟩; have ka : Blk w4 D (bRow m _ _) 100 := h4 ▸ A3.out.k.alloc _; obtain ⟨z8, z5⟩ := bf2 ka 8 5; have y8 : w4.cell? ⟨D, 8, none⟩ = some V1.vp := ka.cell 8; have y5 : w4.cell? ⟨D, 5, none⟩ = some V1.vn := ka.cell 5; have HW := lH h4; clear h4 ka))
     go_ret
     have hg : Blk w4 w3.heap.size ((ln0 m.head).row (.slice none 0 0)) 140 := HW.out ▸ Blk.new w3 _ _
     have B1 : Below w3.heap.size w3 w4 := HW.out ▸ (Below.refl _ _).alloc (nR _) _
     have A4 := A3.out.call B1
     exact ⟨rfl, _, begun A4 HO.out (Or.inr ⟨rfl, rfl⟩) hg A3.out.size, G3.out.trans ⟨touch_into (Touch.of_below B1) ((begunT w4 D _ _).mono (Q := BdF D _) (fun _ _ e => Or.inl e)) (fun _ _ h => h), fun j hj e => begF hj e⟩⟩
    ·rw [if_neg h3]
     have h4 : (c1 == 0) = false := by rw [beq_eq_false_iff_ne]; exact h3
     have hmf : ∀ (fn : Fn) (first cap : Array Value) (W : World), (Instr.makeFunc fn first cap).run Tryz.prog W = .ok (.func fn first cap) W := fun _ _ _ _ => rfl
     go_enter Tryz.func103, Tryz.ntmps103
     go_wp2_with (first | (go_at_call 133; refine HC.out.mono ?_; rintro e1 w1 ⟨rfl, V1, h1, g1⟩; have y8 : w1.cell? ⟨D, 8, none⟩ = some (.pointer (some ⟨V1.gl, 0, none⟩)) := (h1.k.cell 8).trans (congrArg some (h1.r.l HS.out).p); have H1 := lH h1; have G1 := lH g1; clear h1 g1) | (go_at_call 99; refine (lline_any (H1.out.r.l HS.out).l HQ.out).mono ?_; rintro e2 w2 ⟨rfl, v2, h2, t2, b2⟩; have A2 := lH (H1.out.fed HS.out h2 (touch_ln t2)); have G2 := lH (BdGo.fed (V := V1) (D := D) (touch_ln t2) (Or.inl b2)); clear h2 t2 b2) | (go_at_call 134; refine (HP.out _).mono ?_; rintro e3 w3 ⟨rfl, b3⟩; have A3 := lH (A2.out.call b3); have G3 := lH ((G1.out.trans G2.out).trans (BdGo.of_below b3));  clear b3) | (go_at_call 105; refine (bput_any A3.out (by have := HL.out; exact nT this (by decide)) ⟨2, c1, ⟨#[]⟩⟩).mono ?_; rintro e4 w4 ⟨rfl, vo, h4, g4⟩; obtain ⟨z7, z5⟩ := bf2 h4.k 7 5; have y7 : w4.cell? ⟨D, 7, none⟩ = some (.int .i64 s1.left) := h4.k.cell 7; have y5 : w4.cell? ⟨D, 5, none⟩ = some V1.vn := h4.k.cell 5; have H4 := lH h4; have G4 := lH g4; clear h4 g4))
     go_ret
     exact ⟨rfl, _, (to_data H4.out HO.out).1, (G3.out.trans G4.out).trans (to_data H4.out HO.out).2⟩
   ·rw [if_pos h2]
    have h4 : (c2 != 0) = true := by rw [bne_iff_ne]; exact h2
    have h5 : (c2 == 0) = false := by rw [beq_eq_false_iff_ne]; exact h2
    go_enter Tryz.func103, Tryz.ntmps103
    go_wp2_with (first | (go_at_call 133; refine HC.out.mono ?_; rintro e1 w1 ⟨rfl, V1, h1, g1⟩; have y8 : w1.cell? ⟨D, 8, none⟩ = some (.pointer (some ⟨V1.gl, 0, none⟩)) := (h1.k.cell 8).trans (congrArg some (h1.r.l HS.out).p); have H1 := lH h1; have G1 := lH g1; clear h1 g1) | (go_at_call 99; refine (lline_any (H1.out.r.l HS.out).l HQ.out).mono ?_; rintro e2 w2 ⟨rfl, v2, h2, t2, b2⟩; have A2 := lH (H1.out.fed HS.out h2 (touch_ln t2)); have G2 := lH (BdGo.fed (V := V1) (D := D) (touch_ln t2) (Or.inl b2)); clear h2 t2 b2) | (go_at_call 134; refine (HP.out _).mono ?_; rintro e3 w3 ⟨rfl, b3⟩; have A3 := lH (A2.out.call b3); have G3 := lH ((G1.out.trans G2.out).trans (BdGo.of_below b3));  clear b3) | (go_at_call 62; refine (bwrong_any A3.out (by have := HL.out; exact nT this (by decide)) c2 h2).mono ?_; rintro e4 w4 ⟨rfl, vo, h4, g4⟩; have H4 := lH h4; have G4 := lH g4; clear h4 g4))
    go_ret
    exact ⟨rfl, _, H4.out, G3.out.trans G4.out⟩
end Go.Proofs.YtaojfiegnebbdaaGreatDoor
-- BdK
namespace Go.Proofs.YtaojfiegnebbdaaGreatDoor
open Go.RowKit
theorem bStep_trailer {m : Lm} {s : BdS} {x : List UInt8} (hm : s.md = .trailer) : bStep m s x = (if (s.whole x).2.2 = false then ((s.whole x).1, (s.whole x).2.1)
 else (if (s.whole x).1.ln.line ≠ [] then { (s.whole x).1.read (s.whole x).1.ln with all := (s.whole x).1.all ++ [strL (s.whole x).1.ln.line] }
  else if m.fields < ((s.whole x).1.all.length : Int) then ((s.whole x).1.read (s.whole x).1.ln).wrong 4 else if (allF m.fold (s.whole x).1.all).2 ≠ 0 then ((s.whole x).1.read (s.whole x).1.ln).wrong (allF m.fold (s.whole x).1.all).2 else ({ (s.whole x).1.read (s.whole x).1.ln with tr := (allF m.fold (s.whole x).1.all).1 } : BdS).ends, (s.whole x).2.1)) := by
 unfold bStep
 rw [hm]
 rfl
theorem mx_below' {w w1 : World} {n0 : Nat} {u : Value} (h : w.cell? ⟨0, 0, none⟩ = some u) (h0 : 0 < n0) (hb : Below n0 w w1) : w1.cell? ⟨0, 0, none⟩ = some u := (World.cell?_of_block (hb.block 0 h0)).trans h
theorem to_all {w w1 : World} {D n0 : Nat} {m : Lm} {s : BdS} {V : BdV} (h : BdAt w D n0 m s V) {v' : Value} {l' : List ByteArray} (o : OwnS w1 n0 v' l') (t : Touch (fun j => V.va.ownBlock = some j) w w1) (hv : V.va.ownBlock = v'.ownBlock ∨ ∀ k, v'.ownBlock = some k → w.heap.size ≤ k) :
 BdAt (w1.setCell ⟨D, 9, none⟩ v') D n0 m { s with all := l' } { V with va := v' } ∧ BdGo w (w1.setCell ⟨D, 9, none⟩ v') D V { V with va := v' } := by
 have hP : OfTy w (fun j => V.va.ownBlock = some j) [9] := fun j hj => by
  obtain ⟨_, cs, hb⟩ := own_ty h.r.a j hj
  exact ⟨_, _, List.mem_cons_self, hb⟩
 have k1 := h.k.touch t (hP.not h.k (by decide))
 have T2 := touchD w1 D 9 v'
 have hD : OfTy w1 (fun j => j = D) [100] := fun j e => ⟨_, _, List.mem_cons_self, e ▸ k1⟩
 have o1 : OwnPc w1 n0 V.vo s.out := own_touch h.o t (hP.own h.o (by decide))
 have t1 : OwnF w1 n0 V.vt s.tr := own_touch h.r.t t (hP.own h.r.t (by decide))
 refine ⟨⟨k1.set 9 _, h.d, own_touch o1 T2 (hD.own o1 (by decide)), ⟨own_touch o T2 (hD.own o (by decide)), own_touch t1 T2 (hD.own t1 (by decide)), fun e => ((h.r.n e).touch t hP (by decide) (by decide) (by decide)).touch T2 hD (by decide) (by decide) (by decide), fun e => ?_, h.r.u, h.r.f⟩⟩, ⟨touch_into (t.mono (Q := BdF D V) (fun _ _ e => Or.inr (Or.inr (Or.inl e)))) (T2.mono (Q := BdF D V) (fun _ _ e => Or.inl e)) (fun _ _ h => h), fun j hj e => ?_⟩⟩
 ·have b := ((h.r.l e).touch t hP (by decide) (by decide)).touch T2 hD (by decide) (by decide)
  exact ⟨b.p, b.n, b.l⟩
 ·rcases e with e | e | e | e | e
  ·exact Or.inl e
  ·exact Or.inr (Or.inl e)
  ·rcases hv with hv | hv
   ·exact Or.inr (Or.inr (Or.inl (hv.trans e)))
   ·have := hv j e
    omega
  ·exact Or.inr (Or.inr (Or.inr (Or.inl e)))
  ·exact Or.inr (Or.inr (Or.inr (Or.inr e)))
end Go.Proofs.YtaojfiegnebbdaaGreatDoor
-- BdO
namespace Go.Proofs.YtaojfiegnebbdaaGreatDoor
open Go.RowKit
structure BdOk (m : Lm) (s : BdS) : Prop where
 oe : s.over = true → s.e = 0
 left : s.opens = true → 0 ≤ s.left ∧ s.left ≤ 9223372036854775807
 pos : s.opens = true → (s.md = .sized ∨ s.md = .data) → 0 < s.left
 nn : s.opens = true → s.md ≠ .nothing
 lim : s.opens = true → 0 ≤ m.line ∧ m.line ≤ 65536 ∧ 0 ≤ m.head ∧ m.head ≤ 65536
 ln : s.lined = true → LnOk s.ln ∧ s.ln.e = 0 ∧ s.ln.whole = false
 tt : s.lined = true → (s.ln.line.length + tot s.all + s.all.length : Int) ≤ s.ln.spent
 all : s.opens = true → s.md ≠ .trailer → s.all = []
 tr : s.tr.length ≤ 65536
theorem lined_opens {s : BdS} (h : s.lined = true) : s.opens = true ∧ s.md.lined = true := by
 have h' : (s.opens && s.md.lined) = true := h
 rwa [Bool.and_eq_true] at h'
theorem BdOk.shut {m : Lm} {s : BdS} (h : s.opens = false) (oe : s.over = true → s.e = 0) (tr : s.tr.length ≤ 65536) : BdOk m s := by
 have n : ∀ {p : Prop}, s.opens = true → p := fun e => by rw [h] at e; cases e
 exact ⟨oe, n, n, n, n, fun e => n (lined_opens e).1, fun e => n (lined_opens e).1, n, tr⟩
theorem opens_iff {s : BdS} : s.opens = true ↔ s.over = false ∧ s.e = 0 := by
 unfold BdS.opens
 simp
theorem wrong_shut (s : BdS) {e : Int} (he : e ≠ 0) : (s.wrong e).opens = false := by
 unfold BdS.wrong BdS.put BdS.opens
 simp [he]
theorem BdOk.wrong {m : Lm} {s : BdS} (ho : s.over = false) (tr : s.tr.length ≤ 65536) {e : Int} (he : e ≠ 0) : BdOk m (s.wrong e) :=
 BdOk.shut (wrong_shut s he) (fun h => by have h' : s.over = true := h; rw [ho] at h'; cases h') tr
theorem BdOk.ends {m : Lm} {s : BdS} (he : s.e = 0) (tr : s.tr.length ≤ 65536) : BdOk m s.ends := BdOk.shut rfl (fun _ => he) tr
theorem BdOk.all' {m : Lm} {s : BdS} (h : BdOk m s) (hl : s.lined = true) : s.all.length ≤ 65536 ∧ tot s.all ≤ 65536 := by
 have := h.tt hl
 have := (h.ln hl).1.m
 have := (h.ln hl).1.l0
 omega
structure StepOk (m : Lm) (s : BdS) (x : List UInt8) (r : BdS × Nat) : Prop where
 ok : BdOk m r.1
 out : r.1.out.length ≤ s.out.length + 2
 le : r.2 ≤ x.length
 go : r.2 = 0 → r.1.opens = false
theorem ln0_ok {n : Int} (h0 : 0 ≤ n) (h1 : n ≤ 65536) : LnOk (ln0 n) := ⟨h0, Int.le_refl 0, by show n + 0 ≤ 65536; omega, by show ((0 : Nat) : Int) ≤ 0; decide⟩
theorem some_step {m : Lm} {s : BdS} (h : BdOk m s) (ho : s.opens = true) (hp : 0 < s.left) {x : List UInt8} (hx : x ≠ []) : 0 ≤ (s.some x).1.left ∧ (s.some x).1.left ≤ s.left ∧ (s.some x).1.out.length = s.out.length + 1 ∧ (s.some x).2 ≤ x.length ∧ (s.some x).2 ≠ 0 ∧ (s.some x).1.over = false ∧ (s.some x).1.e = 0 ∧ (s.some x).1.tr = s.tr ∧ (s.some x).1.md = s.md ∧ (s.some x).1.all = s.all := by
 have hl : 0 < x.length := List.length_pos_iff.2 hx
 obtain ⟨h1, h2⟩ := opens_iff.1 ho
 have h3 := (h.left ho).1
 refine ⟨(some_left h3 x).1, (some_left h3 x).2, some_out s x, ?_, ?_, h1, h2, rfl, rfl, rfl⟩
 ·show (min (x.length : Int) s.left).toNat ≤ x.length
  omega
 ·show (min (x.length : Int) s.left).toNat ≠ 0
  omega
theorem lined_size {s : BdS} (ho : s.opens = true) (hm : s.md = .size) : s.lined = true := by unfold BdS.lined; rw [ho, hm]; rfl
theorem lined_trailer {s : BdS} (ho : s.opens = true) (hm : s.md = .trailer) : s.lined = true := by unfold BdS.lined; rw [ho, hm]; rfl
theorem whole_part {m : Lm} {s : BdS} (h : BdOk m s) (hl : s.lined = true) {x : List UInt8} (hx : x ≠ []) (hw : (s.whole x).2.2 = false) : StepOk m s x ((s.whole x).1, (s.whole x).2.1) := by
 obtain ⟨hok, he, hnw⟩ := h.ln hl
 obtain ⟨ho, hmd⟩ := lined_opens hl
 obtain ⟨h1, h2⟩ := opens_iff.1 ho
 have hw' : (lnFeed x s.ln).1.whole = false := hw
 have hle := lnFeed_le x s.ln
 by_cases h3 : (lnFeed x s.ln).1.e = 0
 ·have e1 : (s.whole x).1 = { s with ln := (lnFeed x s.ln).1 } := by
   unfold BdS.whole
   simp only
   rw [if_pos h3]
  rw [e1]
  have hd := lnFeed_D x s.ln
  rw [hw', hnw] at hd
  simp only [Bool.false_eq_true, false_and, if_false] at hd
  have ht := h.tt hl
  refine ⟨⟨h.oe, h.left, h.pos, h.nn, h.lim, fun _ => ⟨lnFeed_ok _ _ hok, h3, hw'⟩, fun _ => ?_, h.all, h.tr⟩, Nat.le_add_right _ _, hle, fun h0 => ?_⟩
  ·show ((lnFeed x s.ln).1.line.length + tot s.all + s.all.length : Int) ≤ (lnFeed x s.ln).1.spent
   omega
  ·exact absurd h3 (lnFeed_stuck hx hnw he h0).1
 ·have e1 : (s.whole x).1 = ({ s with ln := (lnFeed x s.ln).1 } : BdS).wrong (lnFeed x s.ln).1.e := by
   unfold BdS.whole
   simp only
   rw [if_neg h3]
  rw [e1]
  refine ⟨BdOk.wrong (by exact h1) (by exact h.tr) h3, ?_, hle, fun _ => wrong_shut _ h3⟩
  show (s.out ++ [_]).length ≤ _
  rw [List.length_append]
  exact Nat.add_le_add_left (Nat.le_succ 1) _
theorem chunkP_pos {l : List UInt8} (h : (chunkP l).1 ≠ 0) : 0 < (chunkP l).1 := by
 have := (chunkP_range l).1
 omega
theorem bStep_ok {m : Lm} {s : BdS} (h : BdOk m s) (ho : s.opens = true) {x : List UInt8} (hx : x ≠ []) : StepOk m s x (bStep m s x) := by
 have hl : 0 < x.length := List.length_pos_iff.2 hx
 obtain ⟨h1, h2⟩ := opens_iff.1 ho
 have hput : ∀ (p : Pc), (s.out ++ [p]).length ≤ s.out.length + 2 := fun p => by rw [List.length_append]; exact Nat.add_le_add_left (Nat.le_succ 1) _
 cases hm : s.md with
 | nothing => exact absurd hm (h.nn ho)
 | rest =>
   have e : bStep m s x = (s.rest x, x.length) := by unfold bStep; rw [hm]
   rw [e]
   exact ⟨⟨h.oe, h.left, h.pos, h.nn, h.lim, h.ln, h.tt, h.all, h.tr⟩, hput _, nR _, fun h0 => absurd h0 (Nat.ne_of_gt hl)⟩
 | sized =>
   obtain ⟨k1, k2, k3, k4, k5, k6, k7, k8, k9, k10⟩ := some_step h ho (h.pos ho (Or.inl hm)) hx
   have e : bStep m s x = (if (s.some x).1.left = 0 then (s.some x).1.ends else (s.some x).1, (s.some x).2) := by unfold bStep; rw [hm]
   rw [e]
   have hr : (s.some x).1.tr.length ≤ 65536 := by rw [k8]; exact h.tr
   have hlf := (h.left ho).2
   refine ⟨?_, ?_, k4, fun h0 => absurd h0 k5⟩
   ·by_cases hz : (s.some x).1.left = 0
    ·rw [if_pos hz]; exact BdOk.ends k7 hr
    ·rw [if_neg hz]
     have hmd : (s.some x).1.md = .sized := k9.trans hm
     have hnl : ∀ {p : Prop}, (s.some x).1.lined = true → p := fun e => by have := (lined_opens e).2; rw [hmd] at this; cases this
     exact ⟨fun e => (by rw [k6] at e; cases e), fun _ => ⟨k1, Int.le_trans k2 hlf⟩, fun _ _ => Int.lt_iff_le_and_ne.2 ⟨k1, Ne.symm hz⟩, fun _ e => (by rw [hmd] at e; cases e), fun _ => h.lim ho, hnl, hnl, fun _ _ => k10.trans (h.all ho (by rw [hm]; exact fun e => by cases e)), hr⟩
   ·by_cases hz : (s.some x).1.left = 0
    ·rw [if_pos hz]
     show ((s.some x).1.out ++ [_]).length ≤ _
     rw [List.length_append, k3]
     exact nR _
    ·rw [if_neg hz, k3]
     exact Nat.le_succ _
 | data =>
   obtain ⟨k1, k2, k3, k4, k5, k6, k7, k8, k9, k10⟩ := some_step h ho (h.pos ho (Or.inr hm)) hx
   have e : bStep m s x = (if (s.some x).1.left = 0 then { (s.some x).1 with md := .cr } else (s.some x).1, (s.some x).2) := by unfold bStep; rw [hm]
   rw [e]
   have hr : (s.some x).1.tr.length ≤ 65536 := by rw [k8]; exact h.tr
   have hlf := (h.left ho).2
   have hal : (s.some x).1.all = [] := k10.trans (h.all ho (by rw [hm]; exact fun e => by cases e))
   refine ⟨?_, ?_, k4, fun h0 => absurd h0 k5⟩
   ·by_cases hz : (s.some x).1.left = 0
    ·rw [if_pos hz]
     have hnl : ∀ {p : Prop}, ({ (s.some x).1 with md := .cr } : BdS).lined = true → p := fun e => by have := (lined_opens e).2; cases this
     exact ⟨fun e => (by have e' : (s.some x).1.over = true := e; rw [k6] at e'; cases e'), fun _ => ⟨k1, Int.le_trans k2 hlf⟩, fun _ e => (by rcases e with e | e <;> cases e), fun _ e => (by cases e), fun _ => h.lim ho, hnl, hnl, fun _ _ => hal, hr⟩
    ·rw [if_neg hz]
     have hmd : (s.some x).1.md = .data := k9.trans hm
     have hnl : ∀ {p : Prop}, (s.some x).1.lined = true → p := fun e => by have := (lined_opens e).2; rw [hmd] at this; cases this
     exact ⟨fun e => (by rw [k6] at e; cases e), fun _ => ⟨k1, Int.le_trans k2 hlf⟩, fun _ _ => Int.lt_iff_le_and_ne.2 ⟨k1, Ne.symm hz⟩, fun _ e => (by rw [hmd] at e; cases e), fun _ => h.lim ho, hnl, hnl, fun _ _ => hal, hr⟩
   ·by_cases hz : (s.some x).1.left = 0
    ·rw [if_pos hz]
     show (s.some x).1.out.length ≤ _
     rw [k3]
     exact Nat.le_succ _
    ·rw [if_neg hz, k3]
     exact Nat.le_succ _
 | cr =>
   have e : bStep m s x = if x.head? = some 13 then ({ s with md := .lf }, 1) else (s.wrong 3, 0) := by unfold bStep; rw [hm]
   rw [e]
   by_cases hz : x.head? = some 13
   ·rw [if_pos hz]
    have hnl : ∀ {p : Prop}, ({ s with md := .lf } : BdS).lined = true → p := fun e => by have := (lined_opens e).2; cases this
    exact ⟨⟨h.oe, h.left, fun _ e => (by rcases e with e | e <;> cases e), fun _ e => (by cases e), h.lim, hnl, hnl, fun _ _ => h.all ho (by rw [hm]; exact fun e => (by cases e)), h.tr⟩, Nat.le_add_right _ _, hl, fun h0 => by cases h0⟩
   ·rw [if_neg hz]
    exact ⟨BdOk.wrong h1 h.tr (by decide), hput _, Nat.zero_le _, fun _ => wrong_shut _ (by decide)⟩
 | lf =>
   have e : bStep m s x = if x.head? = some 10 then ({ s with ln := ln0 m.line, md := .size }, 1) else (s.wrong 3, 0) := by unfold bStep; rw [hm]
   rw [e]
   have hal : s.all = [] := h.all ho (by rw [hm]; exact fun e => by cases e)
   by_cases hz : x.head? = some 10
   ·rw [if_pos hz]
    refine ⟨⟨h.oe, h.left, fun _ e => (by rcases e with e | e <;> cases e), fun _ e => (by cases e), h.lim, fun _ => ⟨ln0_ok (h.lim ho).1 (h.lim ho).2.1, rfl, rfl⟩, fun _ => ?_, fun _ _ => hal, h.tr⟩, Nat.le_add_right _ _, hl, fun h0 => by cases h0⟩
    show (((ln0 m.line).line.length : Int) + tot s.all + s.all.length : Int) ≤ (ln0 m.line).spent
    rw [hal]
    exact Int.le_refl 0
   ·rw [if_neg hz]
    exact ⟨BdOk.wrong h1 h.tr (by decide), hput _, Nat.zero_le _, fun _ => wrong_shut _ (by decide)⟩
 | size =>
   rw [bStep_size hm]
   have hld := lined_size ho hm
   obtain ⟨hok, he, hnw⟩ := h.ln hld
   have hal : s.all = [] := h.all ho (by rw [hm]; exact fun e => by cases e)
   cases hwh : (s.whole x).2.2 with
   | false => rw [if_pos rfl]; exact whole_part h hld hx hwh
   | true =>
     rw [if_neg (by decide)]
     obtain ⟨hq1, hq2⟩ := whole_eq he hnw hwh
     have hq3 : (lnFeed x s.ln).1.whole = true := hwh
     have hle : (s.whole x).2.1 ≤ x.length := lnFeed_le x s.ln
     have hgo : (s.whole x).2.1 ≠ 0 := fun h0 => by
      have := (lnFeed_stuck hx hnw he h0).2
      rw [hq3] at this
      cases this
     rw [hq1]
     refine ⟨?_, ?_, hle, fun h0 => absurd h0 hgo⟩
     ·by_cases c2 : (chunkP (lnFeed x s.ln).1.line).2 = 0
      ·rw [if_neg (fun h => h c2)]
       by_cases c1 : (chunkP (lnFeed x s.ln).1.line).1 = 0
       ·rw [if_pos c1]
        refine ⟨h.oe, h.left, fun _ e => (by rcases e with e | e <;> cases e), fun _ e => (by cases e), h.lim, fun _ => ⟨ln0_ok (h.lim ho).2.2.1 (h.lim ho).2.2.2, rfl, rfl⟩, fun _ => ?_, fun _ _ => hal, h.tr⟩
        show (((ln0 m.head).line.length : Int) + tot s.all + s.all.length : Int) ≤ (ln0 m.head).spent
        rw [hal]
        exact Int.le_refl 0
       ·rw [if_neg c1]
        have hr := chunkP_range (lnFeed x s.ln).1.line
        have hp := chunkP_pos c1
        have hnl : ∀ {p : Prop} {t : BdS}, t.md = .data → t.lined = true → p := fun hmd e => by have := (lined_opens e).2; rw [hmd] at this; cases this
        exact ⟨h.oe, fun _ => ⟨hr.1, Int.le_trans hr.2.1 (by decide)⟩, fun _ _ => hp, fun _ e => (by cases e), h.lim, hnl rfl, hnl rfl, fun _ _ => hal, h.tr⟩
      ·rw [if_pos c2]
       exact BdOk.wrong (by exact h1) (by exact h.tr) c2
     ·by_cases c2 : (chunkP (lnFeed x s.ln).1.line).2 = 0
      ·rw [if_neg (fun h => h c2)]
       by_cases c1 : (chunkP (lnFeed x s.ln).1.line).1 = 0
       ·rw [if_pos c1]
        exact Nat.le_add_right _ _
       ·rw [if_neg c1]
        exact hput _
      ·rw [if_pos c2]
       exact hput _
 | trailer =>
   rw [bStep_trailer hm]
   have hld := lined_trailer ho hm
   obtain ⟨hok, he, hnw⟩ := h.ln hld
   cases hwh : (s.whole x).2.2 with
   | false => rw [if_pos rfl]; exact whole_part h hld hx hwh
   | true =>
     rw [if_neg (by decide)]
     obtain ⟨hq1, hq2⟩ := whole_eq he hnw hwh
     have hq3 : (lnFeed x s.ln).1.whole = true := hwh
     have hle : (s.whole x).2.1 ≤ x.length := lnFeed_le x s.ln
     have hgo : (s.whole x).2.1 ≠ 0 := fun h0 => by
      have := (lnFeed_stuck hx hnw he h0).2
      rw [hq3] at this
      cases this
     have hq4 : (lnFeed x s.ln).1.e = 0 := by
      by_cases h3 : (lnFeed x s.ln).1.e = 0
      ·exact h3
      ·have := lnFeed_bad x s.ln he hnw h3
       rw [hq3] at this
       cases this
     have hd := lnFeed_D x s.ln
     rw [hq3, hnw] at hd
     simp only [and_self, if_true] at hd
     have ht := h.tt hld
     have hk := lnFeed_ok x _ hok
     rw [hq1]
     refine ⟨?_, ?_, hle, fun h0 => absurd h0 hgo⟩
     ·by_cases c0 : (lnFeed x s.ln).1.line = []
      ·rw [if_neg (fun h => h c0)]
       by_cases c1 : m.fields < (s.all.length : Int)
       ·rw [if_pos c1]
        exact BdOk.wrong (by exact h1) (by exact h.tr) (show (4 : Int) ≠ 0 by decide)
       ·rw [if_neg c1]
        by_cases c2 : (allF m.fold s.all).2 = 0
        ·rw [if_neg (fun h => h c2)]
         exact BdOk.ends h2 (nT (allF_len _ _) (h.all' hld).1)
        ·rw [if_pos c2]
         exact BdOk.wrong (by exact h1) (by exact h.tr) c2
      ·rw [if_pos c0]
       refine ⟨h.oe, h.left, fun _ e => (by rcases e with e | e <;> (have e' : s.md = _ := e; rw [hm] at e'; cases e')), h.nn, h.lim, fun _ => ⟨⟨hk.l0, hk.s0, hk.m, by show ((0 : Nat) : Int) ≤ (lnFeed x s.ln).1.spent; have := hk.s0; simpa using this⟩, hq4, rfl⟩, fun _ => ?_, fun _ e => absurd hm e, h.tr⟩
       show (((0 : Nat) : Int) + tot (s.all ++ [strL (lnFeed x s.ln).1.line]) + (s.all ++ [strL (lnFeed x s.ln).1.line]).length : Int) ≤ (lnFeed x s.ln).1.spent
       rw [tot_snoc, strL_size, List.length_append]
       simp only [List.length_singleton]
       omega
     ·by_cases c0 : (lnFeed x s.ln).1.line = []
      ·rw [if_neg (fun h => h c0)]
       by_cases c1 : m.fields < (s.all.length : Int)
       ·rw [if_pos c1]
        exact hput _
       ·rw [if_neg c1]
        by_cases c2 : (allF m.fold s.all).2 = 0
        ·rw [if_neg (fun h => h c2)]
         exact hput _
        ·rw [if_pos c2]
         exact hput _
      ·rw [if_pos c0]
       exact Nat.le_add_right _ _
theorem bRun_stop {m : Lm} {f : Nat} {s : BdS} {x : List UInt8} (h : x = [] ∨ s.opens = false) : bRun m f s x = (s, 0) := by
 cases f with
 | zero => rfl
 | succ f => rw [bRun, if_pos h]
theorem bRun_go {m : Lm} {f : Nat} {s : BdS} {x : List UInt8} (h1 : x ≠ []) (h2 : s.opens = true) : bRun m (f + 1) s x = ((bRun m f (bStep m s x).1 (x.drop (bStep m s x).2)).1, (bStep m s x).2 + (bRun m f (bStep m s x).1 (x.drop (bStep m s x).2)).2) := by
 rw [bRun, if_neg (by rintro (h | h); exact h1 h; rw [h2] at h; cases h)]
theorem bRun_ok (m : Lm) : ∀ (f : Nat) (s : BdS) (x : List UInt8), BdOk m s → BdOk m (bRun m f s x).1 ∧ (bRun m f s x).2 ≤ x.length
 | 0, s, x, h => ⟨h, Nat.zero_le _⟩
 | f + 1, s, x, h => by
   by_cases hx : x = []
   ·rw [bRun_stop (Or.inl hx)]; exact ⟨h, Nat.zero_le _⟩
   ·cases ho : s.opens with
    | false => rw [bRun_stop (Or.inr ho)]; exact ⟨h, Nat.zero_le _⟩
    | true =>
      rw [bRun_go hx ho]
      have hs := bStep_ok h ho hx
      have ih := bRun_ok m f (bStep m s x).1 (x.drop (bStep m s x).2) hs.ok
      refine ⟨ih.1, ?_⟩
      have i2 := ih.2
      rw [List.length_drop] at i2
      have := hs.le
      show (bStep m s x).2 + _ ≤ _
      omega
theorem bNew_ok (m : Lm) (kind len : Int) (hb : len ≤ 9223372036854775807) : BdOk m (bNew m kind len) := by
 unfold bNew
 simp only
 split
 ·exact BdOk.wrong rfl (Nat.zero_le _) (by decide)
 ·rename_i h1
  have hlim : 0 ≤ m.line ∧ m.line ≤ 65536 ∧ 0 ≤ m.head ∧ m.head ≤ 65536 := by omega
  have hlen : 0 ≤ len := by omega
  split
  ·exact BdOk.ends rfl (Nat.zero_le _)
  ·split
   ·split
    ·exact BdOk.ends rfl (Nat.zero_le _)
    ·rename_i h2
     refine ⟨fun _ => rfl, fun _ => ⟨hlen, hb⟩, fun _ _ => ?_, fun _ e => (by cases e), fun _ => hlim, fun e => (by have := (lined_opens e).2; cases this), fun e => (by have := (lined_opens e).2; cases this), fun _ _ => rfl, Nat.zero_le _⟩
     show 0 < len
     omega
   ·split
    ·exact ⟨fun _ => rfl, fun _ => ⟨hlen, hb⟩, fun _ e => (by rcases e with e | e <;> cases e), fun _ e => (by cases e), fun _ => hlim, fun _ => ⟨ln0_ok hlim.1 hlim.2.1, rfl, rfl⟩, fun _ => Int.le_refl 0, fun _ _ => rfl, Nat.zero_le _⟩
    ·split
     ·exact ⟨fun _ => rfl, fun _ => ⟨hlen, hb⟩, fun _ e => (by rcases e with e | e <;> cases e), fun _ e => (by cases e), fun _ => hlim, fun e => (by have := (lined_opens e).2; cases this), fun e => (by have := (lined_opens e).2; cases this), fun _ _ => rfl, Nat.zero_le _⟩
     ·exact BdOk.wrong rfl (Nat.zero_le _) (by decide)
theorem bTold_ok {m : Lm} {s : BdS} (h : BdOk m s) : BdOk m (bTold s) := ⟨h.oe, h.left, h.pos, h.nn, h.lim, h.ln, h.tt, h.all, h.tr⟩
end Go.Proofs.YtaojfiegnebbdaaGreatDoor
-- BdL
namespace Go.Proofs.YtaojfiegnebbdaaGreatDoor
open Go.RowKit
theorem OwnF.shape {w : World} {B : Nat} {v : Value} {l : List Fd} (h : OwnF w B v l) : ∃ p n c, v = .slice p n c := by
 obtain ⟨_, h⟩ := h
 rcases h with ⟨rfl, _⟩ | ⟨g, cap, cur, rfl, _⟩
 ·exact ⟨_, _, _, rfl⟩
 ·exact ⟨_, _, _, rfl⟩
theorem BdAt.drewN {w : World} {D n0 : Nat} {m : Lm} {s : BdS} {V : BdV} (h : BdAt w D n0 m s V) (n : Nat) : BdAt (w.drewN n) D n0 m s V := h.call (bdrew w n)
theorem to_tr {w : World} {D n0 : Nat} {m : Lm} {s : BdS} {V : BdV} (h : BdAt w D n0 m s V) {v' : Value} {l' : List Fd} (o : OwnF w n0 v' l') :
 BdAt (w.setCell ⟨D, 10, none⟩ v') D n0 m { s with tr := l' } { V with vt := v' } ∧ BdGo w (w.setCell ⟨D, 10, none⟩ v') D V { V with vt := v' } := by
 have T2 := touchD w D 10 v'
 have hD := h.ofD
 refine ⟨⟨h.k.set 10 _, h.d, own_touch h.o T2 (fun k hk e => by obtain ⟨_, cs, hb⟩ := own_ty h.o k hk; exact h.k.ne hb (by decide) e.symm), ⟨own_touch h.r.a T2 (hD.own h.r.a (by decide)), own_touch o T2 (hD.own o (by decide)), fun e => (h.r.n e).touch T2 hD (by decide) (by decide) (by decide), fun e => ?_, h.r.u, h.r.f⟩⟩, ⟨T2.mono (fun _ _ e => Or.inl e), fun _ _ e => e⟩⟩
 have b := (h.r.l e).touch T2 hD (by decide) (by decide)
 exact ⟨b.p, b.n, b.l⟩
theorem btrailer_any {w : World} {D n0 : Nat} {m : Lm} {s : BdS} {V : BdV} (h : BdAt w D n0 m s V) (hl : s.out.length ≤ 999998) (ho : s.opens = true) (hm : s.md = .trailer) (hok : LnOk s.ln) (he : s.ln.e = 0) (hw : s.ln.whole = false) (hal : s.all.length ≤ 400000) (htot : tot s.all ≤ 400000) (hn0 : 0 < n0) {mx : Int} (hmx : w.cell? ⟨0, 0, none⟩ = some (.int .i64 mx)) (x : ByteArray) (hx : x.size ≤ 1000000) :
 Calls Tryz.prog 135 #[.pointer (some ⟨D, 0, none⟩), .string x] w fun e w' => e = .returned (.int .i64 (bStep m s x.data.toList).2) ∧ ∃ V', BdAt w' D n0 m (bStep m s x.data.toList).1 V' ∧ BdGo w w' D V V' := by
 have hld : s.lined = true := by unfold BdS.lined; rw [ho, hm]; rfl
 have HC := lH (bwhole_any h (by omega) hld hok x hx)
 have HBL := lH (fun (W : World) (V1 : BdV) (g : BdGo w W D V V1) => show W.cell? ⟨0, 0, none⟩ = some (.int .i64 mx) from mx_below' hmx hn0 (h.below g))
 rw [bStep_trailer hm]
 cases hwh : (s.whole x.data.toList).2.2 with
 | false =>
   rw [if_pos rfl]
   rw [hwh] at HC
   clear h hl ho hm hok he hw hld hmx
   go_enter Tryz.func135, Tryz.ntmps135
   go_wp2_with (go_at_call 133; refine HC.out.mono ?_; rintro e1 w1 ⟨rfl, V1, h1, g1⟩; have H1 := lH h1; have G1 := lH g1; clear h1 g1)
   go_ret
   exact ⟨rfl, V1, H1.out, G1.out⟩
 | true =>
   rw [if_neg (by decide)]
   rw [hwh] at HC
   obtain ⟨hq1, hq2⟩ := whole_eq (x := x.data.toList) he hw hwh
   have hso : (s.whole x.data.toList).1.out = s.out := by rw [hq1]
   have hsa : (s.whole x.data.toList).1.all = s.all := by rw [hq1]
   have hso2 : (s.whole x.data.toList).1.opens = true := by rw [hq1]; exact ho
   have hsl : (s.whole x.data.toList).1.lined = true := by rw [hq1]; exact hld
   generalize (s.whole x.data.toList).1 = s1 at HC hq2 hso hsa hso2 hsl ⊢
   generalize (s.whole x.data.toList).2.1 = n at HC ⊢
   have HO := lH hso2
   have HS := lH hsl
   have HQ := lH hq2
   have HAL := lH (show s1.all.length ≤ 400000 by rw [hsa]; exact hal)
   have HTO := lH (show tot s1.all ≤ 400000 by rw [hsa]; exact htot)
   have HL := lH (show s1.out.length ≤ 999998 by rw [hso]; exact hl)
   clear h hl ho hm hok he hw hld hwh hq1 hq2 hso hsa hso2 hsl hmx hal htot
   by_cases hli : s1.ln.line = []
   ·rw [if_neg (fun h => h hli)]
    have hle : (strL s1.ln.line).toList.isEmpty = true := by rw [isEmpty_list, hli]; rfl
    clear hli
    obtain ⟨AL, hAL⟩ : ∃ a, a = allF m.fold s1.all := ⟨_, rfl⟩
    rw [← hAL]
    obtain ⟨fl, fe⟩ := AL
    simp only
    go_enter Tryz.func135, Tryz.ntmps135
    go_upto_region 8 with (first | (go_at_call 133; refine HC.out.mono ?_; rintro e1 w1 ⟨rfl, V1, h1, g1⟩; have y8 : w1.cell? ⟨D, 8, none⟩ = some (.pointer (some ⟨V1.gl, 0, none⟩)) := (h1.k.cell 8).trans (congrArg some (h1.r.l HS.out).p); have H1 := lH h1; have G1 := lH g1; clear h1 g1) | (go_at_call 99; refine (lline_any (H1.out.r.l HS.out).l HQ.out).mono ?_; rintro e2 w2 ⟨rfl, v2, h2, t2, b2⟩; have A2 := lH (H1.out.fed HS.out h2 (touch_ln t2)); have G2 := lH (G1.out.trans (BdGo.fed (V := V1) (D := D) (touch_ln t2) (Or.inl b2)));  clear h2 t2 b2))
    obtain ⟨pa, ca, hva⟩ := (show OwnS w2 n0 V1.va s1.all from A2.out.r.a).shape
    refine wp_region_at (S := fun W => W.cell? ⟨D, 4, none⟩ = some (.int .i64 m.fold) ∧ W.cell? ⟨D, 9, none⟩ = some (.slice pa s1.all.length ca)) (by kernel_rfl) ?_
    intro W0 hW0
    have A3 := lH (show BdAt W0 D n0 m _ _ from hW0 ▸ A2.out.drew)
    have G3 := lH (show BdGo w W0 D V _ from G2.out.trans (BdGo.of_below (hW0 ▸ (Below.refl _ _).drew)))
    have HST := lH (show Strs W0 (.slice pa s1.all.length ca) s1.all by rw [← hva]; exact OwnS.strs (show OwnS W0 n0 V1.va s1.all from A3.out.r.a))
    have h0 : W0.cell? ⟨D, 4, none⟩ = some (.int .i64 m.fold) ∧ W0.cell? ⟨D, 9, none⟩ = some (.slice pa s1.all.length ca) := ⟨A3.out.k.cell 4, (A3.out.k.cell 9).trans (congrArg some hva)⟩
    clear hW0
    refine wpAnyH_take (i := 0) (v := .pointer (some ⟨D, 0, none⟩)) rfl (by kernel_rfl) (by kernel_rfl) (by kernel_rfl) (fun _ _ _ h => h) (Or.inl ⟨by kernel_rfl, ?hy0⟩) h0 ?rest0
    case hy0 =>
     intro v hv
     clear hv
     go_simp
    (try simp only [Act.put, lS, lZ, lC])
    refine wpAnyH_take (i := 1) (v := .pointer (some ⟨D, 0, none⟩)) rfl (by kernel_rfl) (by kernel_rfl) (by kernel_rfl) (fun _ _ _ h => h) (Or.inl ⟨by kernel_rfl, ?hy1⟩) h0 ?rest1
    case hy1 =>
     intro v hv
     clear hv
     go_simp
    (try simp only [Act.put, lS, lZ, lC])
    refine wpAnyH_take (i := 2) (v := .pointer (some ⟨D, 0, none⟩)) rfl (by kernel_rfl) (by kernel_rfl) (by kernel_rfl) (fun _ _ _ h => h) (Or.inl ⟨by kernel_rfl, ?hy2⟩) h0 ?rest2
    case hy2 =>
     intro v hv
     clear hv
     go_simp
    (try simp only [Act.put, lS, lZ, lC])
    refine wpAnyH_take (i := 3) (v := .pointer (some ⟨D, 4, none⟩)) rfl (by kernel_rfl) (by kernel_rfl) (by kernel_rfl) (fun _ _ _ h => h) (Or.inl ⟨by kernel_rfl, ?hy3⟩) h0 ?rest3
    case hy3 =>
     intro v hv
     clear hv
     go_simp
    (try simp only [Act.put, lS, lZ, lC])
    refine wpAnyH_take (i := 4) (v := .int .i64 m.fold) rfl (by kernel_rfl) (by kernel_rfl) (by kernel_rfl) (fun _ _ _ h => h) (Or.inl ⟨by kernel_rfl, ?hy4⟩) h0 ?rest4
    case hy4 =>
     intro v hv
     have q := hv.1
     clear hv
     go_simp
    (try simp only [Act.put, lS, lZ, lC])
    refine wpAnyH_take (i := 5) (v := .pointer (some ⟨D, 0, none⟩)) rfl (by kernel_rfl) (by kernel_rfl) (by kernel_rfl) (fun _ _ _ h => h) (Or.inl ⟨by kernel_rfl, ?hy5⟩) h0 ?rest5
    case hy5 =>
     intro v hv
     clear hv
     go_simp
    (try simp only [Act.put, lS, lZ, lC])
    refine wpAnyH_take (i := 6) (v := .pointer (some ⟨D, 0, none⟩)) rfl (by kernel_rfl) (by kernel_rfl) (by kernel_rfl) (fun _ _ _ h => h) (Or.inl ⟨by kernel_rfl, ?hy6⟩) h0 ?rest6
    case hy6 =>
     intro v hv
     clear hv
     go_simp
    (try simp only [Act.put, lS, lZ, lC])
    refine wpAnyH_take (i := 7) (v := .pointer (some ⟨D, 9, none⟩)) rfl (by kernel_rfl) (by kernel_rfl) (by kernel_rfl) (fun _ _ _ h => h) (Or.inl ⟨by kernel_rfl, ?hy7⟩) h0 ?rest7
    case hy7 =>
     intro v hv
     clear hv
     go_simp
    (try simp only [Act.put, lS, lZ, lC])
    refine wpAnyH_take (i := 8) (v := .slice pa s1.all.length ca) rfl (by kernel_rfl) (by kernel_rfl) (by kernel_rfl) (fun _ _ _ h => h) (Or.inl ⟨by kernel_rfl, ?hy8⟩) h0 ?rest8
    case hy8 =>
     intro v hv
     have q := hv.2
     clear hv
     go_simp
    (try simp only [Act.put, lS, lZ, lC])
    refine wpAnyH_ready (rs := [9]) (by kernel_rfl) (by simp) ?_
    refine AllReadyH.cons rfl (fun K hK => ?_) AllReadyH.nil
    go_simp
    refine (fall_any m.fold (.slice pa s1.all.length ca) s1.all W0 (HBL.out _ _ G3.out) HST.out (nT HAL.out (by decide)) (nT HTO.out (by decide))).mono ?_
    rintro e W3 ⟨vt, rfl, hot, hb3⟩
    have A4 := lH (A3.out.call hb3)
    have G4 := lH (G3.out.trans (BdGo.of_below hb3))
    rw [← hAL]
    rw [← hAL] at hot
    have HT := lH (hot.lower A3.out.size)
    have h3 : W3.cell? ⟨D, 4, none⟩ = some (.int .i64 m.fold) ∧ W3.cell? ⟨D, 9, none⟩ = some (.slice pa s1.all.length ca) := ⟨A4.out.k.cell 4, (A4.out.k.cell 9).trans (congrArg some hva)⟩
    refine hK _ _ h3 (fun _ => ?_)
    clear hK K h0 hot hb3 hAL
    (try simp only [Act.put, lS, lZ, lC])
    obtain ⟨pt, nt, ct, rfl⟩ := HT.out.shape
    refine wpAnyH_take (i := 10) (v := .tuple #[.slice pt nt ct, .int .i64 fe]) rfl (by kernel_rfl) (by kernel_rfl) (by kernel_rfl) (fun _ _ _ h => h) (Or.inl ⟨by kernel_rfl, ?hyh1⟩) h3 ?resth1
    case hyh1 =>
     intro v hv
     clear hv
     go_simp
    (try simp only [Act.put, lS, lZ, lC])
    refine wpAnyH_take (i := 11) (v := .slice pt nt ct) rfl (by kernel_rfl) (by kernel_rfl) (by kernel_rfl) (fun _ _ _ h => h) (Or.inl ⟨by kernel_rfl, ?hyh2⟩) h3 ?resth2
    case hyh2 =>
     intro v hv
     clear hv
     go_simp
    (try simp only [Act.put, lS, lZ, lC])
    refine wpAnyH_take (i := 12) (v := .int .i64 fe) rfl (by kernel_rfl) (by kernel_rfl) (by kernel_rfl) (fun _ _ _ h => h) (Or.inl ⟨by kernel_rfl, ?hyh3⟩) h3 ?resth3
    case hyh3 =>
     intro v hv
     clear hv
     go_simp
    (try simp only [Act.put, lS, lZ, lC])
    refine wpAnyH_ready (rs := [13]) (by kernel_rfl) (by simp) ?_
    refine AllReadyH.cons rfl (fun K hK => ?_) AllReadyH.nil
    go_simp
    refine hK _ _ h3 (fun _ => ?_)
    clear hK K
    (try simp only [Act.put, lS, lZ, lC])
    refine wpAnyH_ready (rs := [14]) (by kernel_rfl) (by simp) ?_
    refine AllReadyH.cons rfl (fun K hK => ?_) AllReadyH.nil
    go_simp
    refine hK _ _ h3 (fun _ => ?_)
    clear hK K
    (try simp only [Act.put, lS, lZ, lC])
    refine wpAnyH_done (by kernel_rfl) ?_ _
    have y9 : W3.cell? ⟨D, 9, none⟩ = some (.slice pa s1.all.length ca) := (A4.out.k.cell 9).trans (congrArg some hva)
    have y1 : W3.cell? ⟨D, 1, none⟩ = some (.int .i64 m.fields) := A4.out.k.cell 1
    have z10 : W3.frozen? ⟨D, 10, none⟩ = false := A4.out.k.froz 10
    have y10 : W3.cell? ⟨D, 10, none⟩ = some V1.vt := A4.out.k.cell 10
    clear h3 hva
    by_cases c1 : m.fields < (s1.all.length : Int)
    ·have d1 : decide ((s1.all.length : Int) > m.fields) = true := dT c1
     go_wp2_with fail
     go_quiet (fail)
     go_wp2_with (go_at_call 62; refine (bwrong_any (A4.out.drewN _) (nT HL.out (by decide)) 4 (by decide)).mono ?_; rintro e5 w5 ⟨rfl, vo, h5, g5⟩; have H5 := lH h5; have G5 := lH g5; clear h5 g5)
     go_ret
     exact ⟨rfl, _, H5.out, (G4.out.trans (BdGo.of_below (bdrew W3 _))).trans G5.out⟩
    ·have d1 : decide ((s1.all.length : Int) > m.fields) = false := dF c1
     by_cases c2 : fe = 0
     ·subst c2
      go_wp2_with fail
      go_quiet (fail)
      go_wp2_with (go_at_call 61; refine (bends_any (to_tr (A4.out.drewN _) (HT.out.call (bdrew W3 _))).1 (nT HL.out (by decide))).mono ?_; rintro e5 w5 ⟨rfl, vo, h5, g5⟩; have H5 := lH h5; have G5 := lH g5; clear h5 g5)
      go_ret
      try rw [if_neg (fun h => h rfl)]
      exact ⟨rfl, _, H5.out, ((G4.out.trans (BdGo.of_below (bdrew W3 _))).trans (to_tr (A4.out.drewN _) (HT.out.call (bdrew W3 _))).2).trans G5.out⟩
     ·have d2 : (fe != 0) = true := by rw [bne_iff_ne]; exact c2
      have d3 : (fe == 0) = false := by rw [beq_eq_false_iff_ne]; exact c2
      go_wp2_with fail
      go_quiet (fail)
      go_wp2_with (go_at_call 62; refine (bwrong_any (A4.out.drewN _) (nT HL.out (by decide)) fe c2).mono ?_; rintro e5 w5 ⟨rfl, vo, h5, g5⟩; have H5 := lH h5; have G5 := lH g5; clear h5 g5)
      go_ret
      try rw [if_pos c2]
      exact ⟨rfl, _, H5.out, (G4.out.trans (BdGo.of_below (bdrew W3 _))).trans G5.out⟩
   ·rw [if_pos hli]
    have hle : (strL s1.ln.line).toList.isEmpty = false := by
     rw [isEmpty_list]
     show s1.ln.line.isEmpty = false
     cases e : s1.ln.line with
     | nil => exact absurd e hli
     | cons a b => rfl
    go_enter Tryz.func135, Tryz.ntmps135
    go_wp2_with (first | (go_at_call 133; refine HC.out.mono ?_; rintro e1 w1 ⟨rfl, V1, h1, g1⟩; have y8 : w1.cell? ⟨D, 8, none⟩ = some (.pointer (some ⟨V1.gl, 0, none⟩)) := (h1.k.cell 8).trans (congrArg some (h1.r.l HS.out).p); have H1 := lH h1; have G1 := lH g1; clear h1 g1) | (go_at_call 99; refine (lline_any (H1.out.r.l HS.out).l HQ.out).mono ?_; rintro e2 w2 ⟨rfl, v2, h2, t2, b2⟩; have A2 := lH (H1.out.fed HS.out h2 (touch_ln t2)); have G2 := lH (G1.out.trans (BdGo.fed (V := V1) (D := D) (touch_ln t2) (Or.inl b2))); have y9 : w2.cell? ⟨D, 9, none⟩ = some V1.va := A2.out.k.cell 9; clear h2 t2 b2) | (at_builtin; go_loud (refine wpList_push_strs rfl _ _ rfl rfl (show OwnS w2 n0 V1.va s1.all from A2.out.r.a) (strL s1.ln.line) rfl (nT HAL.out (by decide)) A2.out.size ?_; intro g3 c3 w3 ho3 ht3 hg3; have B3 := lH (to_all A2.out ho3 ht3 (hg3.imp (fun e => e.trans rfl) (fun h k hk => by cases hk; exact h))); have k3 := A2.out.k.touch ht3 (fun e => by obtain ⟨_, cs, hb⟩ := own_ty A2.out.r.a D e; exact A2.out.k.ne hb (by decide) rfl); have z9 := k3.froz 9; have y9 : w3.cell? ⟨D, 9, none⟩ = some V1.va := k3.cell 9; clear ho3 ht3 hg3 k3)))
    go_ret
    exact ⟨rfl, _, B3.out.1, G2.out.trans B3.out.2⟩
end Go.Proofs.YtaojfiegnebbdaaGreatDoor
-- BdM
namespace Go.Proofs.YtaojfiegnebbdaaGreatDoor
open Go.RowKit
theorem bStep_rest {m : Lm} {s : BdS} {x : List UInt8} (hm : s.md = .rest) : bStep m s x = (s.rest x, x.length) := by unfold bStep; rw [hm]
theorem bstep_any {w : World} {D n0 : Nat} {m : Lm} {s : BdS} {V : BdV} (h : BdAt w D n0 m s V) (hb : BdOk m s) (ho : s.opens = true) (hl : s.out.length ≤ 900000) (hn0 : 0 < n0) {mx : Int} (hmx : w.cell? ⟨0, 0, none⟩ = some (.int .i64 mx)) (x : ByteArray) (hx0 : 0 < x.size) (hx : x.size ≤ 1000000) :
 ∃ f a c, V.vn = .func (.func f) a c ∧ (∀ xs W, (callFunc f xs).run Tryz.prog W = .ok (.enter f xs) W) ∧ Calls Tryz.prog f (a.push (.string x) ++ c) w fun e w' => e = .returned (.int .i64 (bStep m s x.data.toList).2) ∧ ∃ V', BdAt w' D n0 m (bStep m s x.data.toList).1 V' ∧ BdGo w w' D V V' := by
 have hn := h.r.n ho
 obtain ⟨l0, l1⟩ := hb.left ho
 obtain ⟨m0, m1, m2, m3⟩ := hb.lim ho
 cases hm : s.md with
 | nothing => exact absurd hm (hb.nn ho)
 | rest =>
   rw [hm] at hn
   refine ⟨_, _, _, hn, fun _ _ => by kernel_rfl, ?_⟩
   rw [bStep_rest hm]
   exact (brest_any h (by omega) x hx).mono fun _ _ ⟨h1, vo, h2, h3⟩ => ⟨by rw [h1, Lib.size_eq], _, h2, h3⟩
 | sized =>
   rw [hm] at hn
   exact ⟨_, _, _, hn, fun _ _ => by kernel_rfl, bsized_any h (by omega) hm x hx l0 l1⟩
 | data =>
   rw [hm] at hn
   exact ⟨_, _, _, hn, fun _ _ => by kernel_rfl, bdata_any h (by omega) hm x hx l0 l1⟩
 | size =>
   rw [hm] at hn
   obtain ⟨k1, k2, k3⟩ := hb.ln (lined_size ho hm)
   exact ⟨_, _, _, hn, fun _ _ => by kernel_rfl, bsize_any h (by omega) ho hm k1 k2 k3 m2 m3 x hx⟩
 | trailer =>
   rw [hm] at hn
   obtain ⟨k1, k2, k3⟩ := hb.ln (lined_trailer ho hm)
   have ha := hb.all' (lined_trailer ho hm)
   exact ⟨_, _, _, hn, fun _ _ => by kernel_rfl, btrailer_any h (by omega) ho hm k1 k2 k3 (by omega) (by omega) hn0 hmx x hx⟩
 | lf =>
   rw [hm] at hn
   obtain ⟨bc, bd, bt, hv, k1, k2, k3⟩ := hn
   exact ⟨_, _, _, hv, fun _ _ => by kernel_rfl, bmark_lf h (by omega) ho hm m0 m1 x hx0 bc bd bt k1 k2 k3⟩
 | cr =>
   rw [hm] at hn
   obtain ⟨lf, ⟨bc, bd, bt, hv, k1, k2, k3⟩, hlf⟩ := hn
   have hlf' := hlf
   obtain ⟨_, _, _, hv2, _⟩ := hlf'
   subst hv2
   exact ⟨_, _, _, hv, fun _ _ => by kernel_rfl, bmark_cr h (by omega) ho hm x hx0 bc bd bt _ _ _ hlf k1 k2 k3⟩
def bFeed (m : Lm) (s : BdS) (x : List UInt8) : BdS × Nat := bRun m (x.length + 1) s x
def bM (D : Nat) (w : World) : Nat := match w.cell? ⟨D, 12, none⟩, w.cell? ⟨D, 13, none⟩ with
 | some (.bool false), some (.int _ e) => if e = 0 then 1 else 0
 | _, _ => 0
theorem bM_eq {w : World} {D : Nat} {m : Lm} {s : BdS} {V : BdV} (h : Blk w D (bRow m s V) 100) : bM D w = if s.opens = true then 1 else 0 := by
 have y12 : w.cell? ⟨D, 12, none⟩ = some (.bool s.over) := h.cell 12
 have y13 : w.cell? ⟨D, 13, none⟩ = some (.int .i64 s.e) := h.cell 13
 unfold bM BdS.opens
 rw [y12, y13]
 cases s.over with
 | true => simp
 | false =>
   by_cases he : s.e = 0
   ·simp [he]
   ·simp [he]
theorem bfeed_any {w : World} {D n0 : Nat} {m : Lm} {s : BdS} {V : BdV} (h : BdAt w D n0 m s V) (hb : BdOk m s) (hl : s.out.length ≤ 1000) (hn0 : 0 < n0) {mx : Int} (hmx : w.cell? ⟨0, 0, none⟩ = some (.int .i64 mx)) (S : ByteArray) (hS : S.size ≤ 100000) :
 Calls Tryz.prog 28 #[.pointer (some ⟨D, 0, none⟩), .string S] w fun e w' => ∃ vo V', e = .returned (.tuple #[.int .i64 (bFeed m s S.data.toList).2, vo]) ∧ BdAt w' D n0 m (bTold (bFeed m s S.data.toList).1) V' ∧ OwnPc w' n0 vo (bFeed m s S.data.toList).1.out ∧ BdGo w w' D V V' ∧ V'.vo = .slice none 0 0 ∧ BdOk m (bTold (bFeed m s S.data.toList).1) ∧ (bFeed m s S.data.toList).1.out.length ≤ 300000 := by
 obtain ⟨R, hR⟩ : ∃ R, R = bFeed m s S.data.toList := ⟨_, rfl⟩
 rw [← hR]
 have hn : S.data.toList.length = S.size := (Lib.size_eq S).symm
 have HBL := lH (fun (W : World) (V1 : BdV) (g : BdGo w W D V V1) => show W.cell? ⟨0, 0, none⟩ = some (.int .i64 mx) from mx_below' hmx hn0 (h.below g))
 have H := lH h
 have HR := lH hR
 have HB := lH hb
 have HN := lH hn
 have HL := lH hl
 clear h hR hb hn hl hmx
 go_enter Tryz.func28, Tryz.ntmps28
 go_wp2_with fail
 go_loopw [4] (fun u4 wr => ∃ (k f : Nat) (sk : BdS) (Vk : BdV), k ≤ S.size ∧ u4 = .int .i64 k ∧ BdAt wr D n0 m sk Vk ∧ BdOk m sk ∧ R = ((bRun m f sk (S.data.toList.drop k)).1, k + (bRun m f sk (S.data.toList.drop k)).2) ∧ BdGo w wr D V Vk ∧ S.size - k + (if sk.opens = true then 1 else 0) ≤ f ∧ sk.out.length + 2 * f ≤ 1000 + 2 * (S.size + 1)) (fun u4 wr => 2 * (S.size - (intOf u4).toNat) + bM D wr)
 case atStart =>
  refine ⟨0, S.data.toList.length + 1, s, V, Nat.zero_le _, rfl, H.out, HB.out, ?_, BdGo.refl _ _ _, ?_, ?_⟩
  ·rw [HR.out, List.drop_zero, Nat.zero_add]; rfl
  ·rw [HN.out]; split <;> omega
  ·have := HL.out; have := HN.out; omega
 case round =>
  obtain ⟨k, f, sk, Vk, hk, rfl, hat, hok, hpre, hgo, hf, hlo⟩ := hrel
  have HA := lH hat
  have HO := lH hok
  have HP := lH hpre
  have HG := lH hgo
  have HF := lH hf
  have HLO := lH hlo
  clear hat hok hpre hgo hf hlo
  obtain ⟨OP, hOP⟩ : ∃ b, b = sk.opens := ⟨_, rfl⟩
  have HOP := lH hOP
  clear hOP
  by_cases hlt : k < S.size
  ·have hk1 : decide ((k : Int) < (S.size : Int)) = true := dT (by omega)
   have hne : S.data.toList.drop k ≠ [] := by
    intro e
    have := congrArg List.length e
    rw [List.length_drop, HN.out] at this
    simp at this
    omega
   have HNE := lH hne
   clear hne
   cases OP with
   | false =>
     have hfin : R = (sk, k) := by rw [HP.out, bRun_stop (Or.inr HOP.out.symm)]; rfl
     have HFI := lH hfin
     clear hfin
     go_wp2_with (first | (go_at_call 56; refine (bopen_any HA.out).mono ?_; rw [← HOP.out]; rintro e1 w1 ⟨rfl, rfl⟩) | (go_at_call 57; refine (btold_any HA.out).mono ?_; rintro e2 w2 ⟨rfl, h2, o2, g2⟩; have H2 := lH h2; have O2 := lH o2; have G2 := lH g2; clear h2 o2 g2))
     go_ret2
     refine ⟨Vk.vo, _, by rw [HFI.out]; rfl, by rw [HFI.out]; exact H2.out, by rw [HFI.out]; exact O2.out, HG.out.trans G2.out, rfl, by rw [HFI.out]; exact bTold_ok HO.out, ?_⟩
     rw [HFI.out]
     have := HLO.out
     show sk.out.length ≤ _
     omega
   | true =>
     have hf1 : ∃ f', f = f' + 1 := ⟨f - 1, by have := HF.out; rw [if_pos HOP.out.symm] at this; omega⟩
     obtain ⟨f', rfl⟩ := hf1
     obtain ⟨T, hT⟩ : ∃ T, T = S.extract k S.size := ⟨_, rfl⟩
     have hTl : T.data.toList = S.data.toList.drop k := by rw [hT]; exact extract_drop S k
     have hTs : T.size ≤ 1000000 := by rw [hT, ByteArray.size_extract]; omega
     have hT0 : 0 < T.size := by rw [hT, ByteArray.size_extract]; omega
     have hsl : ∀ W : World, (Instr.slice 9 (.string S) (some (.int .i64 (k : Int))) none none).run Tryz.prog W = .ok (.string T) W := fun W => by
      rw [run_slice_string_l W 9 S Tryz.underlying9 .i64 (k : Int) (by omega) (by omega), Int.toNat_natCast, ← hT]
     have hso := bStep_ok HO.out HOP.out.symm HNE.out
     have hpr := HP.out
     rw [bRun_go HNE.out HOP.out.symm] at hpr
     rw [← hTl] at hso hpr
     have HTL := lH hTl
     have hst := fun (W : World) (hW : BdAt W D n0 m sk Vk) (hm : W.cell? ⟨0, 0, none⟩ = some (.int .i64 mx)) => bstep_any hW HO.out HOP.out.symm (by have := HLO.out; omega) hn0 hm T hT0 hTs
     generalize bStep m sk T.data.toList = Q at hso hpr hst
     obtain ⟨q1, q2⟩ := Q
     have hq2 : q2 ≤ S.size - k := by
      have := hso.le
      rw [hTl, List.length_drop, HN.out] at this
      exact this
     have hgo0 := hso.go
     have hqo := hso.out
     have HQ0 := lH hgo0
     have HQL := lH hq2
     have HQO := lH hqo
     have HQK := lH hso.ok
     have HPR := lH hpr
     have HST := lH hst
     have hm0 := bM_eq HA.out.k
     rw [if_pos HOP.out.symm] at hm0
     have HM0 := lH hm0
     clear hso hpr hst hgo0 hqo hm0 hTl hTs hT hT0 hq2
     have hw1 : wrap64 ((k : Int) + (q2 : Int)) = ((k + q2 : Nat) : Int) := by
      have := HQL.out
      rw [IntWalk.wrap64_in _ ⟨by omega, by omega⟩]
      omega
     have hw2 : IntKind.i64.wrap ((k : Int) + (q2 : Int)) = (k : Int) + (q2 : Int) := by
      have := HQL.out
      exact IntWalk.i64_in _ (by omega)
     go_upto_region 2 with (go_at_call 56; refine (bopen_any HA.out).mono ?_; rw [← HOP.out]; rintro e1 w1 ⟨rfl, rfl⟩)
     refine wp_region_at (S := fun _ => True) (by kernel_rfl) ?_
     intro W0 hW0
     have A0 := lH (show BdAt W0 D n0 m sk Vk from hW0 ▸ HA.out.drew)
     have G0 := lH (show BdGo w W0 D V Vk from HG.out.trans (BdGo.of_below (hW0 ▸ (Below.refl _ _).drew)))
     clear hW0
     obtain ⟨fn, fa, fc, hvn, hcf, hcall⟩ := HST.out W0 A0.out (HBL.out _ _ G0.out)
     have y5 : W0.cell? ⟨D, 5, none⟩ = some (.func (.func fn) fa fc) := (A0.out.k.cell 5).trans (congrArg some hvn)
     have HC := lH hcall
     clear hcall hvn
     refine wpAnyH_take (i := 0) (v := .int .i64 (k : Int)) rfl (by kernel_rfl) (by kernel_rfl) (by kernel_rfl) (fun _ _ _ h => h) (Or.inl ⟨by kernel_rfl, ?hyh4⟩) trivial ?resth4
     case hyh4 =>
      intro v hv
      clear hv
      go_simp
     (try simp only [Act.put, lS, lZ, lC])
     refine wpAnyH_take (i := 1) (v := .pointer (some ⟨D, 0, none⟩)) rfl (by kernel_rfl) (by kernel_rfl) (by kernel_rfl) (fun _ _ _ h => h) (Or.inl ⟨by kernel_rfl, ?hyh5⟩) trivial ?resth5
     case hyh5 =>
      intro v hv
      clear hv
      go_simp
     (try simp only [Act.put, lS, lZ, lC])
     refine wpAnyH_take (i := 2) (v := .pointer (some ⟨D, 0, none⟩)) rfl (by kernel_rfl) (by kernel_rfl) (by kernel_rfl) (fun _ _ _ h => h) (Or.inl ⟨by kernel_rfl, ?hyh6⟩) trivial ?resth6
     case hyh6 =>
      intro v hv
      clear hv
      go_simp
     (try simp only [Act.put, lS, lZ, lC])
     refine wpAnyH_take (i := 3) (v := .pointer (some ⟨D, 5, none⟩)) rfl (by kernel_rfl) (by kernel_rfl) (by kernel_rfl) (fun _ _ _ h => h) (Or.inl ⟨by kernel_rfl, ?hyh7⟩) trivial ?resth7
     case hyh7 =>
      intro v hv
      clear hv
      go_simp
     (try simp only [Act.put, lS, lZ, lC])
     refine wpAnyH_take (i := 5) (v := .string S) rfl (by kernel_rfl) (by kernel_rfl) (by kernel_rfl) (fun _ _ _ h => h) (Or.inl ⟨by kernel_rfl, ?hyh8⟩) trivial ?resth8
     case hyh8 =>
      intro v hv
      clear hv
      go_simp
     (try simp only [Act.put, lS, lZ, lC])
     refine wpAnyH_take (i := 6) (v := .int .i64 (k : Int)) rfl (by kernel_rfl) (by kernel_rfl) (by kernel_rfl) (fun _ _ _ h => h) (Or.inl ⟨by kernel_rfl, ?hyh9⟩) trivial ?resth9
     case hyh9 =>
      intro v hv
      clear hv
      go_simp
     (try simp only [Act.put, lS, lZ, lC])
     refine wpAnyH_take (i := 7) (v := .string T) rfl (by kernel_rfl) (by kernel_rfl) (by kernel_rfl) (fun _ _ _ h => h) (Or.inl ⟨by kernel_rfl, ?hyh10⟩) trivial ?resth10
     case hyh10 =>
      intro v hv
      clear hv
      go_simp
     (try simp only [Act.put, lS, lZ, lC])
     refine wpAnyH_ready (rs := [4]) (by kernel_rfl) (by simp) ?_
     refine AllReadyH.cons rfl (fun K hK => ?_) AllReadyH.nil
     go_simp
     refine hK _ _ trivial (fun _ => ?_)
     clear hK K y5
     (try simp only [Act.put, lS, lZ, lC])
     refine wpAnyH_ready (rs := [8]) (by kernel_rfl) (by simp) ?_
     refine AllReadyH.cons rfl (fun K hK => ?_) AllReadyH.nil
     go_simp
     refine HC.out.mono ?_
     rintro e W1 ⟨rfl, V1, h1, g1⟩
     have H1 := lH h1
     have G1 := lH (G0.out.trans g1)
     clear h1 g1
     refine hK _ _ trivial (fun _ => ?_)
     clear hK K
     (try simp only [Act.put, lS, lZ, lC])
     refine wpAnyH_take (i := 9) (v := .int .i64 ((k + q2 : Nat) : Int)) rfl (by kernel_rfl) (by kernel_rfl) (by kernel_rfl) (fun _ _ _ h => h) (Or.inl ⟨by kernel_rfl, ?hyh11⟩) trivial ?resth11
     case hyh11 =>
      intro v hv
      clear hv
      go_simp
     (try simp only [Act.put, lS, lZ, lC])
     refine wpAnyH_ready (rs := [10]) (by kernel_rfl) (by simp) ?_
     refine AllReadyH.cons rfl (fun K hK => ?_) AllReadyH.nil
     go_simp
     refine hK _ _ trivial (fun _ => ?_)
     clear hK K
     (try simp only [Act.put, lS, lZ, lC])
     refine wpAnyH_done (by kernel_rfl) ?_ _
     go_wp2_with fail
     go_roundw
     case rel =>
      refine ⟨k + q2, f', q1, V1, by have := HQL.out; omega, rfl, H1.out, HQK.out, ?_, G1.out, ?_, ?_⟩
      ·rw [HPR.out, HTL.out, List.drop_drop]
       exact Prod.ext rfl (Nat.add_assoc _ _ _).symm
      ·have h1 := HF.out
       rw [if_pos HOP.out.symm] at h1
       by_cases h0 : q2 = 0
       ·rw [HQ0.out h0]
        simp
        omega
       ·split <;> omega
      ·have h1 := HLO.out
       have h2 := HQO.out
       have h3 : q1.out.length ≤ sk.out.length + 2 := h2
       omega
     case measure =>
      rw [HM0.out, bM_eq H1.out.k]
      simp [intOf]
      have h1 := HQ0.out
      have h2 := HQL.out
      by_cases h3 : q2 = 0
      ·rw [h1 h3]
       simp
       omega
      ·split <;> omega
  ·have hk1 : decide ((k : Int) < (S.size : Int)) = false := dF (by omega)
   have hke : k = S.size := by omega
   have hfin : R = (sk, k) := by rw [HP.out, bRun_stop (Or.inl (by rw [List.drop_eq_nil_iff]; rw [HN.out]; omega))]; rfl
   have HFI := lH hfin
   clear hfin hke
   go_wp2_with (go_at_call 57; refine (btold_any HA.out).mono ?_; rintro e2 w2 ⟨rfl, h2, o2, g2⟩; have H2 := lH h2; have O2 := lH o2; have G2 := lH g2; clear h2 o2 g2)
   go_ret2
   refine ⟨Vk.vo, _, by rw [HFI.out]; rfl, by rw [HFI.out]; exact H2.out, by rw [HFI.out]; exact O2.out, HG.out.trans G2.out, rfl, by rw [HFI.out]; exact bTold_ok HO.out, ?_⟩
   rw [HFI.out]
   have := HLO.out
   show sk.out.length ≤ _
   omega
end Go.Proofs.YtaojfiegnebbdaaGreatDoor
-- RbP
namespace Go.Proofs.YtaojfiegnebbdaaGreatDoor
open Go.RowKit
def trP (fold fields : Int) : List (List UInt8) → Nat → List ByteArray → Option ((List Fd × Int) × Nat)
 | [], _, _ => none
 | l :: r, at_, got => if l ≠ [] then trP fold fields r (at_ + (l.length + 2)) (got ++ [strL l])
   else some (if fields < (got.length : Int) then ([], 4) else if (allF fold got).2 ≠ 0 then ([], (allF fold got).2) else ((allF fold got).1, 0), at_ + 2)
structure GotP where
 body : List UInt8
 sizes : List Int
 tr : List Fd
 used : Nat
 over : Bool
 err : Int
def gotTr (m : Lm) (x : List UInt8) : GotP :=
 match trP m.fold m.fields (rdL m.head x 0 [] false).1 0 [] with
 | none => ⟨[], [], [], (rdL m.head x 0 [] false).2.2.1, false, (rdL m.head x 0 [] false).2.2.2⟩
 | some (r, u) => ⟨[], [], r.1, u, r.2 == 0, r.2⟩
def GotP.behind (g : GotP) (b : List UInt8) (n : Int) (u : Nat) : GotP := { g with body := b ++ g.body, sizes := n :: g.sizes, used := u + g.used }
def gotCh (m : Lm) : Nat → List UInt8 → GotP
 | 0, _ => ⟨[], [], [], 0, false, 0⟩
 | f + 1, x => if x = [] then ⟨[], [], [], 0, false, 0⟩ else
   match (rdL m.line x 0 [] false).1 with
   | [] => ⟨[], [], [], (rdL m.line x 0 [] false).2.2.1, false, (rdL m.line x 0 [] false).2.2.2⟩
   | l :: _ =>
     if (chunkP l).2 ≠ 0 then ⟨[], [], [], l.length + 2, false, (chunkP l).2⟩
     else if (chunkP l).1 = 0 then { gotTr m (x.drop (l.length + 2)) with used := l.length + 2 + (gotTr m (x.drop (l.length + 2))).used }
     else if ((x.drop (l.length + 2)).length : Int) ≤ (chunkP l).1 then ⟨x.drop (l.length + 2), [(chunkP l).1], [], x.length, false, 0⟩
     else match (x.drop (l.length + 2)).drop (chunkP l).1.toNat with
      | [] => ⟨[], [], [], 0, false, 0⟩
      | a :: z => if a ≠ 13 then ⟨(x.drop (l.length + 2)).take (chunkP l).1.toNat, [(chunkP l).1], [], l.length + 2 + (chunkP l).1.toNat, false, 3⟩
        else match z with
         | [] => ⟨(x.drop (l.length + 2)).take (chunkP l).1.toNat, [(chunkP l).1], [], l.length + 2 + (chunkP l).1.toNat + 1, false, 0⟩
         | b :: y => if b ≠ 10 then ⟨(x.drop (l.length + 2)).take (chunkP l).1.toNat, [(chunkP l).1], [], l.length + 2 + (chunkP l).1.toNat + 1, false, 3⟩
           else (gotCh m f y).behind ((x.drop (l.length + 2)).take (chunkP l).1.toNat) (chunkP l).1 (l.length + 2 + (chunkP l).1.toNat + 2)
def gotOpen (m : Lm) (k n : Int) (x : List UInt8) : GotP :=
 if n < 0 ∨ k < 0 ∨ 3 < k ∨ m.line < 0 ∨ 65536 < m.line ∨ m.head < 0 ∨ 65536 < m.head then ⟨[], [], [], 0, false, 1⟩
 else if k = 0 then ⟨[], [], [], 0, true, 0⟩
 else if k = 1 then ⟨x.take (min (x.length : Int) n).toNat, [], [], (min (x.length : Int) n).toNat, min (x.length : Int) n == n, 0⟩
 else if k = 3 then ⟨x, [], [], x.length, false, 0⟩
 else gotCh m (x.length + 1) x
def gotRead (m : Lm) (k n : Int) (closed : Bool) (x : List UInt8) : GotP :=
 let g := gotOpen m k n x
 if closed = false ∨ g.over = true ∨ g.err ≠ 0 then g else if k = 3 then { g with over := true } else { g with err := 19 }
def szO (l : List Pc) : List Int := l.filterMap fun p => if p.k = 2 then some p.n else none
def bdO (l : List Pc) : List UInt8 := l.flatMap fun p => if p.k = 3 then p.t.data.toList else []
theorem szO_append (a b : List Pc) : szO (a ++ b) = szO a ++ szO b := by unfold szO; rw [List.filterMap_append]
theorem bdO_append (a b : List Pc) : bdO (a ++ b) = bdO a ++ bdO b := by unfold bdO; rw [List.flatMap_append]
theorem ln_rd (most : Int) : ∀ (x : List UInt8) (ln : LnS) (i j : Nat), ln.whole = false → ln.e = 0 → ln.left = most - i → j = ln.line.length + (if ln.turn = true then 1 else 0) →
 if (lnFeed x ln).1.whole = true then rdL most x i ln.line ln.turn = ((lnFeed x ln).1.line :: (rdL most (x.drop (lnFeed x ln).2) (i + (lnFeed x ln).2) [] false).1, (rdL most (x.drop (lnFeed x ln).2) (i + (lnFeed x ln).2) [] false).2) ∧ j + (lnFeed x ln).2 = (lnFeed x ln).1.line.length + 2 ∧ (lnFeed x ln).1.e = 0 ∧ (lnFeed x ln).1.left = most - (i + (lnFeed x ln).2 : Nat) ∧ (lnFeed x ln).1.turn = false
 else (rdL most x i ln.line ln.turn).1 = [] ∧ (rdL most x i ln.line ln.turn).2.2.1 = i + (lnFeed x ln).2 ∧ (rdL most x i ln.line ln.turn).2.2.2 = (lnFeed x ln).1.e ∧ ((lnFeed x ln).1.e = 0 → (lnFeed x ln).2 = x.length)
 | [], ln, i, j, hw, he, _, _ => by
   have e : lnFeed [] ln = (ln, 0) := rfl
   rw [e, if_neg (by rw [hw]; decide)]
   exact ⟨rfl, rfl, he.symm, fun _ => rfl⟩
 | c :: x, ln, i, j, hw, he, hl, hi => by
   obtain ⟨L, S, Ln, Wi, Tu, Wh, E⟩ := ln
   simp only at hw he hl hi
   subst hw he
   have estep : lnFeed (c :: x) ⟨L, S, Ln, Wi, Tu, false, 0⟩ = if (seeP ⟨L, S, Ln, Wi, Tu, false, 0⟩ c).2 = 0 then ((lnFeed x { (seeP ⟨L, S, Ln, Wi, Tu, false, 0⟩ c).1 with e := 0 }).1, (lnFeed x { (seeP ⟨L, S, Ln, Wi, Tu, false, 0⟩ c).1 with e := 0 }).2 + 1) else ({ (seeP ⟨L, S, Ln, Wi, Tu, false, 0⟩ c).1 with e := (seeP ⟨L, S, Ln, Wi, Tu, false, 0⟩ c).2 }, 0) := by
    rw [lnFeed, if_neg (by simp)]
   by_cases h1 : L = 0
   ·have es : seeP ⟨L, S, Ln, Wi, Tu, false, 0⟩ c = (⟨L, S, Ln, Wi, Tu, false, 0⟩, 4) := by unfold seeP; rw [if_pos h1]
    have hF : lnFeed (c :: x) ⟨L, S, Ln, Wi, Tu, false, 0⟩ = (⟨L, S, Ln, Wi, Tu, false, 4⟩, 0) := by rw [estep, es]; rfl
    have hR : rdL most (c :: x) i Ln Tu = ([], !Ln.isEmpty || Tu, i, 4) := by rw [rdL, if_pos (by omega)]
    rw [hF, hR, if_neg (by simp)]
    exact ⟨rfl, rfl, rfl, fun h => by cases h⟩
   ·have hm : ¬ (i : Int) = most := by omega
    by_cases h2 : Tu ≠ decide (c = 10)
    ·have es : seeP ⟨L, S, Ln, Wi, Tu, false, 0⟩ c = (⟨L, S, Ln, Wi, Tu, false, 0⟩, 8) := by unfold seeP; rw [if_neg h1, if_pos h2]
     have hF : lnFeed (c :: x) ⟨L, S, Ln, Wi, Tu, false, 0⟩ = (⟨L, S, Ln, Wi, Tu, false, 8⟩, 0) := by rw [estep, es]; rfl
     have hR : rdL most (c :: x) i Ln Tu = ([], !Ln.isEmpty || Tu, i, 8) := by rw [rdL, if_neg hm, if_pos h2]
     rw [hF, hR, if_neg (by simp)]
     exact ⟨rfl, rfl, rfl, fun h => by cases h⟩
    ·by_cases h3 : c = 13
     ·have es : seeP ⟨L, S, Ln, Wi, Tu, false, 0⟩ c = (⟨L - 1, S + 1, Ln, true, true, false, 0⟩, 0) := by unfold seeP; rw [if_neg h1, if_neg h2, if_pos h3]; rfl
      have htu : Tu = false := by
       have h2' : Tu = decide (c = 10) := by simpa using h2
       rw [h2', h3]
       decide
      subst htu
      have hF : lnFeed (c :: x) ⟨L, S, Ln, Wi, false, false, 0⟩ = ((lnFeed x ⟨L - 1, S + 1, Ln, true, true, false, 0⟩).1, (lnFeed x ⟨L - 1, S + 1, Ln, true, true, false, 0⟩).2 + 1) := by rw [estep, es]; rfl
      have hR : rdL most (c :: x) i Ln false = rdL most x (i + 1) Ln true := by rw [rdL, if_neg hm, if_neg h2, if_pos h3]
      have ih := ln_rd most x ⟨L - 1, S + 1, Ln, true, true, false, 0⟩ (i + 1) (j + 1) rfl rfl (by simp only; omega) (by simp only [if_true]; simpa using hi)
      simp only at ih
      simp only
      rw [hF, hR]
      simp only
      split at ih
      ·rename_i hq
       rw [if_pos hq]
       refine ⟨?_, by omega, ih.2.2.1, ?_, ih.2.2.2.2⟩
       ·rw [ih.1, List.drop_succ_cons, Nat.add_assoc, Nat.add_comm 1]
       ·rw [ih.2.2.2.1]; omega
      ·rename_i hq
       rw [if_neg hq]
       exact ⟨ih.1, by rw [ih.2.1]; omega, ih.2.2.1, fun h => by rw [ih.2.2.2 h]; rfl⟩
     ·by_cases h4 : c = 10
      ·have es : seeP ⟨L, S, Ln, Wi, Tu, false, 0⟩ c = (⟨L - 1, S + 1, Ln, false, false, true, 0⟩, 0) := by unfold seeP; rw [if_neg h1, if_neg h2, if_neg h3, if_pos h4]
       have htu : Tu = true := by
        have h2' : Tu = decide (c = 10) := by simpa using h2
        rw [h2', h4]
        decide
       subst htu
       have hF : lnFeed (c :: x) ⟨L, S, Ln, Wi, true, false, 0⟩ = (⟨L - 1, S + 1, Ln, false, false, true, 0⟩, 1) := by
        rw [estep, es]
        simp only [if_true]
        rw [lnFeed_stop _ _ (Or.inl rfl)]
       have hR : rdL most (c :: x) i Ln true = (Ln :: (rdL most x (i + 1) [] false).1, (rdL most x (i + 1) [] false).2) := by rw [rdL, if_neg hm, if_neg h2, if_neg h3, if_pos h4]
       simp only
       rw [hF, hR]
       simp only [if_true]
       refine ⟨rfl, ?_, trivial, ?_, trivial⟩
       ·simp at hi
        omega
       ·omega
      ·have es : seeP ⟨L, S, Ln, Wi, Tu, false, 0⟩ c = (⟨L - 1, S + 1, Ln ++ [c], true, Tu, false, 0⟩, 0) := by unfold seeP; rw [if_neg h1, if_neg h2, if_neg h3, if_neg h4]; rfl
       have htu : Tu = false := by
        have h2' : Tu = decide (c = 10) := by simpa using h2
        rw [h2']
        exact dF h4
       subst htu
       have hF : lnFeed (c :: x) ⟨L, S, Ln, Wi, false, false, 0⟩ = ((lnFeed x ⟨L - 1, S + 1, Ln ++ [c], true, false, false, 0⟩).1, (lnFeed x ⟨L - 1, S + 1, Ln ++ [c], true, false, false, 0⟩).2 + 1) := by rw [estep, es]; rfl
       have hR : rdL most (c :: x) i Ln false = rdL most x (i + 1) (Ln ++ [c]) false := by rw [rdL, if_neg hm, if_neg h2, if_neg h3, if_neg h4]
       have ih := ln_rd most x ⟨L - 1, S + 1, Ln ++ [c], true, false, false, 0⟩ (i + 1) (j + 1) rfl rfl (by simp only; omega) (by simp at hi; simp; omega)
       simp only at ih
       simp only
       rw [hF, hR]
       simp only
       split at ih
       ·rename_i hq
        rw [if_pos hq]
        refine ⟨?_, by omega, ih.2.2.1, ?_, ih.2.2.2.2⟩
        ·rw [ih.1, List.drop_succ_cons, Nat.add_assoc, Nat.add_comm 1]
        ·rw [ih.2.2.2.1]; omega
       ·rename_i hq
        rw [if_neg hq]
        exact ⟨ih.1, by rw [ih.2.1]; omega, ih.2.2.1, fun h => by rw [ih.2.2.2 h]; rfl⟩
structure RunEq (R : BdS × Nat) (out : List Pc) (u : Nat) (over : Bool) (e : Int) (tr : List Fd) (sz : List Int) (bd : List UInt8) : Prop where
 u : R.2 = u
 o : R.1.over = over
 e : R.1.e = e
 t : R.1.tr = tr
 s : szO R.1.out = szO out ++ sz
 b : bdO R.1.out = bdO out ++ bd
theorem szO_one (out : List Pc) (p : Pc) (h : p.k ≠ 2) : szO (out ++ [p]) = szO out := by
 rw [szO_append]
 unfold szO
 simp [h]
theorem bdO_one (out : List Pc) (p : Pc) (h : p.k ≠ 3) : bdO (out ++ [p]) = bdO out := by
 rw [bdO_append]
 unfold bdO
 simp [h]
theorem run_wrong (m : Lm) (f : Nat) (s : BdS) (x : List UInt8) {e : Int} (he : e ≠ 0) (ho : s.over = false) : RunEq (bRun m f (s.wrong e) x) s.out 0 false e s.tr [] [] := by
 rw [bRun_stop (Or.inr (wrong_shut s he))]
 exact ⟨rfl, ho, rfl, rfl, by rw [List.append_nil]; exact szO_one s.out ⟨5, e, ⟨#[]⟩⟩ (show (5 : Int) ≠ 2 by decide), by rw [List.append_nil]; exact bdO_one s.out ⟨5, e, ⟨#[]⟩⟩ (show (5 : Int) ≠ 3 by decide)⟩
theorem RunEq.more {R : BdS × Nat} {out : List Pc} {u : Nat} {over : Bool} {e : Int} {tr : List Fd} {sz : List Int} {bd : List UInt8} (h : RunEq R out u over e tr sz bd) (k : Nat) : RunEq (R.1, k + R.2) out (k + u) over e tr sz bd := ⟨by rw [← h.u], h.o, h.e, h.t, h.s, h.b⟩
theorem tr_eq (m : Lm) (left : Int) (out : List Pc) : ∀ (f : Nat) (x : List UInt8) (ln : LnS) (all : List ByteArray) (i at_ : Nat), x.length + 1 ≤ f → ln.line = [] → ln.whole = false → ln.turn = false → ln.e = 0 → ln.left = m.head - i →
  match trP m.fold m.fields (rdL m.head x i [] false).1 at_ all with
  | none => ∃ u, i + u = (rdL m.head x i [] false).2.2.1 ∧ RunEq (bRun m f ⟨.trailer, left, ln, all, [], false, false, 0, out⟩ x) out u false (rdL m.head x i [] false).2.2.2 [] [] []
  | some (r, at') => ∃ u, at_ + u = at' ∧ RunEq (bRun m f ⟨.trailer, left, ln, all, [], false, false, 0, out⟩ x) out u (r.2 == 0) r.2 r.1 [] []
 | 0, x, _, _, _, _, hf, _, _, _, _, _ => by omega
 | f + 1, x, ln, all, i, at_, hf, hli, hw, ht, he, hl => by
   by_cases hx : x = []
   ·subst hx
    have hR : rdL m.head [] i [] false = ([], false, i, 0) := rfl
    rw [hR]
    refine ⟨0, rfl, ?_⟩
    rw [bRun_stop (Or.inl rfl)]
    exact ⟨rfl, rfl, rfl, rfl, by simp, by simp⟩
   ·have hrd := ln_rd m.head x ln i 0 hw he hl (by rw [hli, ht]; rfl)
    rw [hli, ht] at hrd
    rw [bRun_go hx rfl, bStep_trailer rfl]
    have hwh : ((⟨.trailer, left, ln, all, [], false, false, 0, out⟩ : BdS).whole x).2.2 = (lnFeed x ln).1.whole := rfl
    have hwu : ((⟨.trailer, left, ln, all, [], false, false, 0, out⟩ : BdS).whole x).2.1 = (lnFeed x ln).2 := rfl
    cases hq : (lnFeed x ln).1.whole with
    | false =>
      rw [hq, if_neg (by decide)] at hrd
      obtain ⟨r1, r2, r3, r4⟩ := hrd
      rw [r1]
      rw [hwh, hq, if_pos rfl]
      refine ⟨(lnFeed x ln).2, r2.symm, ?_⟩
      rw [r3]
      simp only [hwu]
      by_cases hz : (lnFeed x ln).1.e = 0
      ·have e1 : ((⟨.trailer, left, ln, all, [], false, false, 0, out⟩ : BdS).whole x).1 = ⟨.trailer, left, (lnFeed x ln).1, all, [], false, false, 0, out⟩ := by
        unfold BdS.whole
        simp only
        rw [if_pos hz]
       rw [e1, bRun_stop (Or.inl (by rw [r4 hz, List.drop_length])), hz]
       exact ⟨rfl, rfl, rfl, rfl, by simp, by simp⟩
      ·have e1 : ((⟨.trailer, left, ln, all, [], false, false, 0, out⟩ : BdS).whole x).1 = (⟨.trailer, left, (lnFeed x ln).1, all, [], false, false, 0, out⟩ : BdS).wrong (lnFeed x ln).1.e := by
        unfold BdS.whole
        simp only
        rw [if_neg hz]
       rw [e1]
       exact (run_wrong m f _ _ hz rfl).more _
    | true =>
      rw [hq, if_pos rfl] at hrd
      obtain ⟨r1, r2, r3, r4, r5⟩ := hrd
      obtain ⟨q1, _⟩ := whole_eq (s := ⟨.trailer, left, ln, all, [], false, false, 0, out⟩) (x := x) he hw (hwh.trans hq)
      rw [hwh, hq, if_neg (by decide), hwu, q1, r1]
      simp only
      rw [Nat.zero_add] at r2
      by_cases hl0 : (lnFeed x ln).1.line = []
      ·rw [if_neg (fun h => h hl0), hl0, trP, if_neg (fun h => h rfl)]
       rw [hl0] at r2
       have hu : (lnFeed x ln).2 = 2 := r2
       rw [hu]
       by_cases c1 : m.fields < (all.length : Int)
       ·simp only [if_pos c1]
        exact ⟨2, rfl, (run_wrong m f ((⟨.trailer, left, (lnFeed x ln).1, all, [], false, false, 0, out⟩ : BdS).read (lnFeed x ln).1) _ (e := 4) (by decide) rfl).more 2⟩
       ·simp only [if_neg c1]
        by_cases c2 : (allF m.fold all).2 = 0
        ·simp only [c2, ne_eq, not_true, if_false]
         refine ⟨2, rfl, ?_⟩
         rw [bRun_stop (Or.inr rfl)]
         exact ⟨rfl, rfl, rfl, rfl, by rw [List.append_nil]; exact szO_one out ⟨4, 0, ⟨#[]⟩⟩ (show (4 : Int) ≠ 2 by decide), by rw [List.append_nil]; exact bdO_one out ⟨4, 0, ⟨#[]⟩⟩ (show (4 : Int) ≠ 3 by decide)⟩
        ·simp only [ne_eq, c2, not_false_eq_true, if_true]
         refine ⟨2, rfl, ?_⟩
         have hne : ((allF m.fold all).2 == 0) = false := by rw [beq_eq_false_iff_ne]; exact c2
         rw [hne]
         exact (run_wrong m f ((⟨.trailer, left, (lnFeed x ln).1, all, [], false, false, 0, out⟩ : BdS).read (lnFeed x ln).1) _ c2 rfl).more 2
      ·rw [if_pos hl0, trP, if_pos hl0]
       have hle := lnFeed_le x ln
       have ih := tr_eq m left out f (x.drop (lnFeed x ln).2) { (lnFeed x ln).1 with line := [], whole := false } (all ++ [strL (lnFeed x ln).1.line]) (i + (lnFeed x ln).2) (at_ + ((lnFeed x ln).1.line.length + 2)) (by rw [List.length_drop]; omega) rfl rfl r5 r3 r4
       have e2 : ({ ({ (⟨.trailer, left, ln, all, [], false, false, 0, out⟩ : BdS) with ln := (lnFeed x ln).1 } : BdS).read (lnFeed x ln).1 with all := all ++ [strL (lnFeed x ln).1.line] } : BdS) = ⟨.trailer, left, { (lnFeed x ln).1 with line := [], whole := false }, all ++ [strL (lnFeed x ln).1.line], [], false, false, 0, out⟩ := rfl
       rw [e2]
       generalize trP m.fold m.fields (rdL m.head (x.drop (lnFeed x ln).2) (i + (lnFeed x ln).2) [] false).1 (at_ + ((lnFeed x ln).1.line.length + 2)) (all ++ [strL (lnFeed x ln).1.line]) = Z at ih ⊢
       cases Z with
       | none =>
         obtain ⟨u, h1, h2⟩ := ih
         exact ⟨(lnFeed x ln).2 + u, by rw [← Nat.add_assoc]; exact h1, h2.more _⟩
       | some Z =>
         obtain ⟨r, at'⟩ := Z
         obtain ⟨u, h1, h2⟩ := ih
         exact ⟨(lnFeed x ln).2 + u, by rw [r2, ← Nat.add_assoc]; exact h1, h2.more _⟩
end Go.Proofs.YtaojfiegnebbdaaGreatDoor
-- BdN
namespace Go.Proofs.YtaojfiegnebbdaaGreatDoor
open Go.RowKit
theorem bwithin_any (n : Int) (w : World) : Calls Tryz.prog 101 #[.int .i64 n] w fun e w' => e = .returned (.bool (decide (0 ≤ n ∧ n ≤ 65536))) ∧ w = w' := by
 by_cases h0 : 0 ≤ n
 ·have d0 : decide (n ≥ 0) = true := dT h0
  by_cases h1 : n ≤ 65536
  ·have d1 : decide (n ≤ 65536) = true := dT h1
   rw [dT (And.intro h0 h1)]
   clear h0 h1
   go_enter Tryz.func101, Tryz.ntmps101
   go_wp2_with fail
   go_ret
   exact ⟨rfl, rfl⟩
  ·have d1 : decide (n ≤ 65536) = false := dF h1
   rw [dF (fun h : 0 ≤ n ∧ n ≤ 65536 => h1 h.2)]
   clear h0 h1
   go_enter Tryz.func101, Tryz.ntmps101
   go_wp2_with fail
   go_ret
   exact ⟨rfl, rfl⟩
 ·have d0 : decide (n ≥ 0) = false := dF h0
  rw [dF (fun h : 0 ≤ n ∧ n ≤ 65536 => h0 h.1)]
  clear h0
  go_enter Tryz.func101, Tryz.ntmps101
  go_wp2_with fail
  go_ret
  exact ⟨rfl, rfl⟩
def bs0 (m : Lm) (len : Int) : BdS := ⟨.nothing, len, ln0 m.line, [], [], false, false, 0, []⟩
def bv0 (D : Nat) (p : Value) : BdV := ⟨D, .slice none 0 0, .func (.func 100) #[.pointer (some ⟨D, 0, none⟩)] #[], .slice none 0 0, p, .slice none 0 0, .slice none 0 0⟩
def limRow (m : Lm) : Array Value := #[.int .i64 m.head, .int .i64 m.fields, .int .i64 m.line, .int .i64 m.body, .int .i64 m.fold]
def bL1 (kind len : Int) : Obj := .cells #[.int .i64 kind, .int .i64 len] 37
def bL2 (m : Lm) : Obj := .cells #[.int .i64 m.head, .int .i64 m.fields, .int .i64 m.line, .int .i64 m.body, .int .i64 m.fold] 42
structure BnAt (w W : World) (D g : Nat) (m : Lm) (kind len : Int) (p : Value) : Prop where
 a : BdAt W D w.heap.size m (bs0 m len) (bv0 D p)
 b : Below w.heap.size w W
 f : Blk W w.heap.size #[.int .i64 kind, .int .i64 len] 37
 l : Blk W (w.heap.size + 1) (limRow m) 42
 fD : w.heap.size ≠ D
 lD : w.heap.size + 1 ≠ D
theorem bnew_base (w X : World) (m : Lm) (kind len : Int) (p : Value) (g : Nat) (hb : Below (w.heap.size + 3) (((w.alloc (bL1 kind len)).alloc (bL2 m)).alloc (.cells (bRow m (bs0 m len) (bv0 (w.heap.size + 1 + 1) p)) 100)) X) :
 BnAt w X (w.heap.size + 1 + 1) g m kind len p := by
 have s3 : (((w.alloc (bL1 kind len)).alloc (bL2 m)).alloc (.cells (bRow m (bs0 m len) (bv0 (w.heap.size + 1 + 1) p)) 100)).heap.size = w.heap.size + 3 := by simp
 have k1 : Blk (((w.alloc (bL1 kind len)).alloc (bL2 m)).alloc (.cells (bRow m (bs0 m len) (bv0 (w.heap.size + 1 + 1) p)) 100)) w.heap.size #[.int .i64 kind, .int .i64 len] 37 := ((Blk.new w _ _).alloc _).alloc _
 have k2 : Blk (((w.alloc (bL1 kind len)).alloc (bL2 m)).alloc (.cells (bRow m (bs0 m len) (bv0 (w.heap.size + 1 + 1) p)) 100)) (w.heap.size + 1) (limRow m) 42 := (Blk.new' (w := w.alloc (bL1 kind len)) (by simp)).alloc _
 have k3 : Blk (((w.alloc (bL1 kind len)).alloc (bL2 m)).alloc (.cells (bRow m (bs0 m len) (bv0 (w.heap.size + 1 + 1) p)) 100)) (w.heap.size + 1 + 1) (bRow m (bs0 m len) (bv0 (w.heap.size + 1 + 1) p)) 100 := Blk.new' (w := (w.alloc (bL1 kind len)).alloc (bL2 m)) (by simp)
 have hbw : Below w.heap.size w (((w.alloc (bL1 kind len)).alloc (bL2 m)).alloc (.cells (bRow m (bs0 m len) (bv0 (w.heap.size + 1 + 1) p)) 100)) := (((Below.refl _ _).alloc (nR _) _).alloc (by simp) _).alloc (by simp; omega) _
 rw [← s3] at hb
 have hne1 : w.heap.size ≠ w.heap.size + 1 + 1 := by omega
 have hne2 : w.heap.size + 1 ≠ w.heap.size + 1 + 1 := by omega
 exact ⟨⟨k3.call hb, by omega, OwnPc.start _ _, ⟨OwnS.start _ _, OwnF.start _ _, fun _ => rfl, fun e => (by cases e), fun _ => ⟨rfl, rfl⟩, ⟨_, _, _, rfl⟩⟩⟩, hbw.trans (hb.mono (by omega)), k1.call hb, k2.call hb, hne1, hne2⟩
theorem to_size {w W : World} {D g : Nat} {m : Lm} {kind len : Int} (h : BnAt w W D g m kind len (.pointer (some ⟨g, 0, none⟩))) (hg : Blk W g ((ln0 m.line).row (.slice none 0 0)) 140) (h0 : w.heap.size ≤ g) :
 BdAt (W.setCell ⟨D, 5, none⟩ (.func (.func 103) #[.pointer (some ⟨D, 0, none⟩)] #[])) D w.heap.size m { bs0 m len with md := .size } { bv0 D (.pointer (some ⟨g, 0, none⟩)) with gl := g, vn := .func (.func 103) #[.pointer (some ⟨D, 0, none⟩)] #[] } := by
 have T := touchD W D 5 (.func (.func 103) #[.pointer (some ⟨D, 0, none⟩)] #[])
 have hgD : ¬ g = D := fun e => hg.ne h.a.k (by decide) e
 exact ⟨h.a.k.set 5 _, h.a.d, OwnPc.start _ _, ⟨OwnS.start _ _, OwnF.start _ _, fun _ => rfl, fun _ => ⟨rfl, h0, ⟨hg.touch T hgD, OwnB.start _ _, Nat.lt_succ_self _, (hg.touch T hgD).lt⟩⟩, fun e => (by cases e), ⟨_, _, _, rfl⟩⟩⟩
theorem bd_set_below {w : World} {D n0 : Nat} {m : Lm} {s : BdS} {V : BdV} (h : BdAt w D n0 m s V) (i : Nat) (u : Value) : Below n0 w (w.setCell ⟨D, i, none⟩ u) := h.below (V1 := V) ⟨(touchD w D i u).mono (fun _ _ e => Or.inl e), fun _ _ e => e⟩
theorem bnew_f (m : Lm) (kind len : Int) (w : World) (hl : m.line < 0 ∨ 65536 < m.line) :
 Calls Tryz.prog 55 #[.agg #[.int .i64 kind, .int .i64 len], .agg #[.int .i64 m.head, .int .i64 m.fields, .int .i64 m.line, .int .i64 m.body, .int .i64 m.fold]] w fun e w' => ∃ D V, e = .returned (.pointer (some ⟨D, 0, none⟩)) ∧ BdAt w' D w.heap.size m (bNew m kind len) V ∧ Below w.heap.size w w' := by
 have HN := lH (lnew_nil m.line hl)
 have hdl : decide (0 ≤ m.line ∧ m.line ≤ 65536) = false := dF (by omega)
 have hdh : (0 : Int) = 0 := rfl
 have hB : bNew m kind len = (bs0 m len).wrong 1 := by
  unfold bNew
  simp only
  rw [if_pos (by omega)]
  rfl
 rw [hB]
 clear hB hl
 go_enter Tryz.func55, Tryz.ntmps55
 go_upto_region 4 with (go_at_call 63; refine (HN.out _).mono ?_; rintro e1 w1 ⟨rfl, h1⟩; subst h1)
 refine wp_here 4 ?_
 intro W hW
 have hBN : BnAt w W (w.heap.size + 1 + 1) 0 m kind len (.pointer none) := by rw [hW]; exact bnew_base w _ m kind len (.pointer none) 0 (Below.refl _ _)
 clear hW HN
 have yF0 : W.cell? ⟨w.heap.size, 0, none⟩ = some (.int .i64 kind) := hBN.f.cell 0
 have yF1 : W.cell? ⟨w.heap.size, 1, none⟩ = some (.int .i64 len) := hBN.f.cell 1
 have yL0 : W.cell? ⟨w.heap.size + 1, 0, none⟩ = some (.int .i64 m.head) := hBN.l.cell 0
 have yL2 : W.cell? ⟨w.heap.size + 1, 2, none⟩ = some (.int .i64 m.line) := hBN.l.cell 2
 have fD := hBN.fD
 have lD := hBN.lD
 have HBN := lH hBN
 generalize w.heap.size + 1 + 1 = D at HBN hBN fD lD ⊢
 have y5 : W.cell? ⟨D, 5, none⟩ = some (.func (.func 100) #[.pointer (some ⟨D, 0, none⟩)] #[]) := hBN.a.k.cell 5
 have y7 : W.cell? ⟨D, 7, none⟩ = some (.int .i64 len) := hBN.a.k.cell 7
 have y11 : W.cell? ⟨D, 11, none⟩ = some (.bool false) := hBN.a.k.cell 11
 have y12 : W.cell? ⟨D, 12, none⟩ = some (.bool false) := hBN.a.k.cell 12
 have y13 : W.cell? ⟨D, 13, none⟩ = some (.int .i64 0) := hBN.a.k.cell 13
 have z5 : W.frozen? ⟨D, 5, none⟩ = false := hBN.a.k.froz 5
 have z11 : W.frozen? ⟨D, 11, none⟩ = false := hBN.a.k.froz 11
 have z12 : W.frozen? ⟨D, 12, none⟩ = false := hBN.a.k.froz 12
 have z13 : W.frozen? ⟨D, 13, none⟩ = false := hBN.a.k.froz 13
 by_cases h1 : len < 0
 ·have d1 : decide (len < 0) = true := dT h1
  clear h1
  have h13 : BdAt (W.setCell ⟨D, 13, none⟩ (.int .i64 1)) D w.heap.size m { bs0 m len with e := 1 } (bv0 D (.pointer none)) := hBN.a.set 13 _ rfl rfl rfl rfl rfl rfl rfl (fun e => (by cases e)) (fun e => (by cases e)) (fun _ => ⟨rfl, rfl⟩) ⟨_, _, _, rfl⟩
  have HC := lH (bput_any h13 (Nat.zero_le _) ⟨5, 1, ⟨#[]⟩⟩)
  have HH := lH h13
  clear hBN h13
  go_wp2_with (first | (go_at_call 101; refine (bwithin_any _ _).mono ?_; simp only [hdl, hdh]; rintro e2 w2 ⟨rfl, rfl⟩) | (go_at_call 105; refine HC.out.mono ?_; rintro e3 w3 ⟨rfl, vo, h3, g3⟩; have H3 := lH h3; have G3 := lH g3; clear h3 g3))
  go_ret
  exact ⟨D, _, rfl, H3.out, (HBN.out.b.trans (bd_set_below HBN.out.a 13 _)).trans (HH.out.below G3.out)⟩
 ·have d1 : decide (len < 0) = false := dF (by omega)
  clear h1
  have h13 : BdAt (W.setCell ⟨D, 13, none⟩ (.int .i64 1)) D w.heap.size m { bs0 m len with e := 1 } (bv0 D (.pointer none)) := hBN.a.set 13 _ rfl rfl rfl rfl rfl rfl rfl (fun e => (by cases e)) (fun e => (by cases e)) (fun _ => ⟨rfl, rfl⟩) ⟨_, _, _, rfl⟩
  have HC := lH (bput_any h13 (Nat.zero_le _) ⟨5, 1, ⟨#[]⟩⟩)
  have HH := lH h13
  clear hBN h13
  go_wp2_with (first | (go_at_call 101; refine (bwithin_any _ _).mono ?_; simp only [hdl, hdh]; rintro e2 w2 ⟨rfl, rfl⟩) | (go_at_call 105; refine HC.out.mono ?_; rintro e3 w3 ⟨rfl, vo, h3, g3⟩; have H3 := lH h3; have G3 := lH g3; clear h3 g3))
  go_ret
  exact ⟨D, _, rfl, H3.out, (HBN.out.b.trans (bd_set_below HBN.out.a 13 _)).trans (HH.out.below G3.out)⟩
theorem bnew_len (m : Lm) (kind len : Int) (w : World) (h0 : 0 ≤ m.line) (h1 : m.line ≤ 65536) (hl : len < 0) :
 Calls Tryz.prog 55 #[.agg #[.int .i64 kind, .int .i64 len], .agg #[.int .i64 m.head, .int .i64 m.fields, .int .i64 m.line, .int .i64 m.body, .int .i64 m.fold]] w fun e w' => ∃ D V, e = .returned (.pointer (some ⟨D, 0, none⟩)) ∧ BdAt w' D w.heap.size m (bNew m kind len) V ∧ Below w.heap.size w w' := by
 have HN := lH (lnew_any m.line h0 h1)
 have hdl : decide (0 ≤ m.line ∧ m.line ≤ 65536) = true := dT ⟨h0, h1⟩
 have hdh : (0 : Int) = 0 := rfl
 have d1 : decide (len < 0) = true := dT hl
 have hB : bNew m kind len = (bs0 m len).wrong 1 := by
  unfold bNew
  simp only
  rw [if_pos (by omega)]
  rfl
 rw [hB]
 clear hB h0 h1 hl
 go_enter Tryz.func55, Tryz.ntmps55
 go_upto_region 4 with (go_at_call 63; refine (HN.out _).mono ?_; rintro e1 w1 ⟨rfl, h1⟩; subst h1)
 refine wp_here 4 ?_
 intro W hW
 have hBN : BnAt w W (w.heap.size + 1 + 1) (w.heap.size + 3) m kind len (.pointer (some ⟨w.heap.size + 3, 0, none⟩)) := by rw [hW]; exact bnew_base w _ m kind len (.pointer (some ⟨w.heap.size + 3, 0, none⟩)) (w.heap.size + 3) ((Below.refl _ _).alloc (by simp) _)
 have hg : Blk W (w.heap.size + 3) ((ln0 m.line).row (.slice none 0 0)) 140 := by rw [hW]; exact Blk.new' (by simp)
 have hg0 : w.heap.size ≤ w.heap.size + 3 := by omega
 clear hW HN
 have HG := lH hg
 have HG0 := lH hg0
 clear hg hg0
 generalize w.heap.size + 3 = g at hBN HG HG0
 have yF0 : W.cell? ⟨w.heap.size, 0, none⟩ = some (.int .i64 kind) := hBN.f.cell 0
 have yF1 : W.cell? ⟨w.heap.size, 1, none⟩ = some (.int .i64 len) := hBN.f.cell 1
 have yL0 : W.cell? ⟨w.heap.size + 1, 0, none⟩ = some (.int .i64 m.head) := hBN.l.cell 0
 have yL2 : W.cell? ⟨w.heap.size + 1, 2, none⟩ = some (.int .i64 m.line) := hBN.l.cell 2
 have fD := hBN.fD
 have lD := hBN.lD
 have HBN := lH hBN
 generalize w.heap.size + 1 + 1 = D at HBN hBN fD lD ⊢
 have y5 : W.cell? ⟨D, 5, none⟩ = some (.func (.func 100) #[.pointer (some ⟨D, 0, none⟩)] #[]) := hBN.a.k.cell 5
 have y7 : W.cell? ⟨D, 7, none⟩ = some (.int .i64 len) := hBN.a.k.cell 7
 have y11 : W.cell? ⟨D, 11, none⟩ = some (.bool false) := hBN.a.k.cell 11
 have y12 : W.cell? ⟨D, 12, none⟩ = some (.bool false) := hBN.a.k.cell 12
 have y13 : W.cell? ⟨D, 13, none⟩ = some (.int .i64 0) := hBN.a.k.cell 13
 have z5 : W.frozen? ⟨D, 5, none⟩ = false := hBN.a.k.froz 5
 have z11 : W.frozen? ⟨D, 11, none⟩ = false := hBN.a.k.froz 11
 have z12 : W.frozen? ⟨D, 12, none⟩ = false := hBN.a.k.froz 12
 have z13 : W.frozen? ⟨D, 13, none⟩ = false := hBN.a.k.froz 13
 have h13 : BdAt (W.setCell ⟨D, 13, none⟩ (.int .i64 1)) D w.heap.size m { bs0 m len with e := 1 } (bv0 D (.pointer (some ⟨g, 0, none⟩))) := hBN.a.set 13 _ rfl rfl rfl rfl rfl rfl rfl (fun e => (by cases e)) (fun e => (by cases e)) (fun _ => ⟨rfl, rfl⟩) ⟨_, _, _, rfl⟩
 have HC := lH (bput_any h13 (Nat.zero_le _) ⟨5, 1, ⟨#[]⟩⟩)
 have HH := lH h13
 clear hBN h13
 go_wp2_with (first | (go_at_call 101; refine (bwithin_any _ _).mono ?_; simp only [hdl, hdh]; rintro e2 w2 ⟨rfl, rfl⟩) | (go_at_call 105; refine HC.out.mono ?_; rintro e3 w3 ⟨rfl, vo, h3, g3⟩; have H3 := lH h3; have G3 := lH g3; clear h3 g3))
 go_ret
 exact ⟨D, _, rfl, H3.out, (HBN.out.b.trans (bd_set_below HBN.out.a 13 _)).trans (HH.out.below G3.out)⟩
theorem bnew_head (m : Lm) (kind len : Int) (w : World) (h0 : 0 ≤ m.line) (h1 : m.line ≤ 65536) (hl : 0 ≤ len) (hh : m.head < 0 ∨ 65536 < m.head) :
 Calls Tryz.prog 55 #[.agg #[.int .i64 kind, .int .i64 len], .agg #[.int .i64 m.head, .int .i64 m.fields, .int .i64 m.line, .int .i64 m.body, .int .i64 m.fold]] w fun e w' => ∃ D V, e = .returned (.pointer (some ⟨D, 0, none⟩)) ∧ BdAt w' D w.heap.size m (bNew m kind len) V ∧ Below w.heap.size w w' := by
 have HN := lH (lnew_any m.line h0 h1)
 have hdl : decide (0 ≤ m.line ∧ m.line ≤ 65536) = true := dT ⟨h0, h1⟩
 have hdh : decide (0 ≤ m.head ∧ m.head ≤ 65536) = false := dF (by omega)
 have d1 : decide (len < 0) = false := dF (by omega)
 have hB : bNew m kind len = (bs0 m len).wrong 1 := by
  unfold bNew
  simp only
  rw [if_pos (by omega)]
  rfl
 rw [hB]
 clear hB h0 h1 hl hh
 go_enter Tryz.func55, Tryz.ntmps55
 go_upto_region 4 with (go_at_call 63; refine (HN.out _).mono ?_; rintro e1 w1 ⟨rfl, h1⟩; subst h1)
 refine wp_here 4 ?_
 intro W hW
 have hBN : BnAt w W (w.heap.size + 1 + 1) (w.heap.size + 3) m kind len (.pointer (some ⟨w.heap.size + 3, 0, none⟩)) := by rw [hW]; exact bnew_base w _ m kind len (.pointer (some ⟨w.heap.size + 3, 0, none⟩)) (w.heap.size + 3) ((Below.refl _ _).alloc (by simp) _)
 have hg : Blk W (w.heap.size + 3) ((ln0 m.line).row (.slice none 0 0)) 140 := by rw [hW]; exact Blk.new' (by simp)
 have hg0 : w.heap.size ≤ w.heap.size + 3 := by omega
 clear hW HN
 have HG := lH hg
 have HG0 := lH hg0
 clear hg hg0
 generalize w.heap.size + 3 = g at hBN HG HG0
 have yF0 : W.cell? ⟨w.heap.size, 0, none⟩ = some (.int .i64 kind) := hBN.f.cell 0
 have yF1 : W.cell? ⟨w.heap.size, 1, none⟩ = some (.int .i64 len) := hBN.f.cell 1
 have yL0 : W.cell? ⟨w.heap.size + 1, 0, none⟩ = some (.int .i64 m.head) := hBN.l.cell 0
 have yL2 : W.cell? ⟨w.heap.size + 1, 2, none⟩ = some (.int .i64 m.line) := hBN.l.cell 2
 have fD := hBN.fD
 have lD := hBN.lD
 have HBN := lH hBN
 generalize w.heap.size + 1 + 1 = D at HBN hBN fD lD ⊢
 have y5 : W.cell? ⟨D, 5, none⟩ = some (.func (.func 100) #[.pointer (some ⟨D, 0, none⟩)] #[]) := hBN.a.k.cell 5
 have y7 : W.cell? ⟨D, 7, none⟩ = some (.int .i64 len) := hBN.a.k.cell 7
 have y11 : W.cell? ⟨D, 11, none⟩ = some (.bool false) := hBN.a.k.cell 11
 have y12 : W.cell? ⟨D, 12, none⟩ = some (.bool false) := hBN.a.k.cell 12
 have y13 : W.cell? ⟨D, 13, none⟩ = some (.int .i64 0) := hBN.a.k.cell 13
 have z5 : W.frozen? ⟨D, 5, none⟩ = false := hBN.a.k.froz 5
 have z11 : W.frozen? ⟨D, 11, none⟩ = false := hBN.a.k.froz 11
 have z12 : W.frozen? ⟨D, 12, none⟩ = false := hBN.a.k.froz 12
 have z13 : W.frozen? ⟨D, 13, none⟩ = false := hBN.a.k.froz 13
 have h13 : BdAt (W.setCell ⟨D, 13, none⟩ (.int .i64 1)) D w.heap.size m { bs0 m len with e := 1 } (bv0 D (.pointer (some ⟨g, 0, none⟩))) := hBN.a.set 13 _ rfl rfl rfl rfl rfl rfl rfl (fun e => (by cases e)) (fun e => (by cases e)) (fun _ => ⟨rfl, rfl⟩) ⟨_, _, _, rfl⟩
 have HC := lH (bput_any h13 (Nat.zero_le _) ⟨5, 1, ⟨#[]⟩⟩)
 have HH := lH h13
 clear hBN h13
 go_wp2_with (first | (go_at_call 101; refine (bwithin_any _ _).mono ?_; simp only [hdl, hdh]; rintro e2 w2 ⟨rfl, rfl⟩) | (go_at_call 105; refine HC.out.mono ?_; rintro e3 w3 ⟨rfl, vo, h3, g3⟩; have H3 := lH h3; have G3 := lH g3; clear h3 g3))
 go_ret
 exact ⟨D, _, rfl, H3.out, (HBN.out.b.trans (bd_set_below HBN.out.a 13 _)).trans (HH.out.below G3.out)⟩
theorem bnew_none (m : Lm) (kind len : Int) (w : World) (h0 : 0 ≤ m.line) (h1 : m.line ≤ 65536) (hl : 0 ≤ len) (hh0 : 0 ≤ m.head) (hh1 : m.head ≤ 65536) (hk : kind = 0) :
 Calls Tryz.prog 55 #[.agg #[.int .i64 kind, .int .i64 len], .agg #[.int .i64 m.head, .int .i64 m.fields, .int .i64 m.line, .int .i64 m.body, .int .i64 m.fold]] w fun e w' => ∃ D V, e = .returned (.pointer (some ⟨D, 0, none⟩)) ∧ BdAt w' D w.heap.size m (bNew m kind len) V ∧ Below w.heap.size w w' := by
 have HN := lH (lnew_any m.line h0 h1)
 have hdl : decide (0 ≤ m.line ∧ m.line ≤ 65536) = true := dT ⟨h0, h1⟩
 have hdh : decide (0 ≤ m.head ∧ m.head ≤ 65536) = true := dT ⟨hh0, hh1⟩
 have d1 : decide (len < 0) = false := dF (by omega)
 have e0 : (kind == 0) = true := by simp [hk]
 have e1 : (kind == 1) = false := by simp [hk]
 have e2 : (kind == 2) = false := by simp [hk]
 have e3 : (kind == 3) = false := by simp [hk]
 have hB : bNew m kind len = (bs0 m len).ends := by
  unfold bNew
  simp only
  rw [if_neg (by omega)]
  rw [if_pos hk]
  rfl
 rw [hB]
 clear hB h0 h1 hl hh0 hh1 hk
 go_enter Tryz.func55, Tryz.ntmps55
 go_upto_region 4 with (go_at_call 63; refine (HN.out _).mono ?_; rintro e1 w1 ⟨rfl, h1⟩; subst h1)
 refine wp_here 4 ?_
 intro W hW
 have hBN : BnAt w W (w.heap.size + 1 + 1) (w.heap.size + 3) m kind len (.pointer (some ⟨w.heap.size + 3, 0, none⟩)) := by rw [hW]; exact bnew_base w _ m kind len (.pointer (some ⟨w.heap.size + 3, 0, none⟩)) (w.heap.size + 3) ((Below.refl _ _).alloc (by simp) _)
 have hg : Blk W (w.heap.size + 3) ((ln0 m.line).row (.slice none 0 0)) 140 := by rw [hW]; exact Blk.new' (by simp)
 have hg0 : w.heap.size ≤ w.heap.size + 3 := by omega
 clear hW HN
 have HG := lH hg
 have HG0 := lH hg0
 clear hg hg0
 generalize w.heap.size + 3 = g at hBN HG HG0
 have yF0 : W.cell? ⟨w.heap.size, 0, none⟩ = some (.int .i64 kind) := hBN.f.cell 0
 have yF1 : W.cell? ⟨w.heap.size, 1, none⟩ = some (.int .i64 len) := hBN.f.cell 1
 have yL0 : W.cell? ⟨w.heap.size + 1, 0, none⟩ = some (.int .i64 m.head) := hBN.l.cell 0
 have yL2 : W.cell? ⟨w.heap.size + 1, 2, none⟩ = some (.int .i64 m.line) := hBN.l.cell 2
 have fD := hBN.fD
 have lD := hBN.lD
 have HBN := lH hBN
 generalize w.heap.size + 1 + 1 = D at HBN hBN fD lD ⊢
 have y5 : W.cell? ⟨D, 5, none⟩ = some (.func (.func 100) #[.pointer (some ⟨D, 0, none⟩)] #[]) := hBN.a.k.cell 5
 have y7 : W.cell? ⟨D, 7, none⟩ = some (.int .i64 len) := hBN.a.k.cell 7
 have y11 : W.cell? ⟨D, 11, none⟩ = some (.bool false) := hBN.a.k.cell 11
 have y12 : W.cell? ⟨D, 12, none⟩ = some (.bool false) := hBN.a.k.cell 12
 have y13 : W.cell? ⟨D, 13, none⟩ = some (.int .i64 0) := hBN.a.k.cell 13
 have z5 : W.frozen? ⟨D, 5, none⟩ = false := hBN.a.k.froz 5
 have z11 : W.frozen? ⟨D, 11, none⟩ = false := hBN.a.k.froz 11
 have z12 : W.frozen? ⟨D, 12, none⟩ = false := hBN.a.k.froz 12
 have z13 : W.frozen? ⟨D, 13, none⟩ = false := hBN.a.k.froz 13
 have h12 : BdAt (W.setCell ⟨D, 12, none⟩ (.bool true)) D w.heap.size m { bs0 m len with over := true } (bv0 D (.pointer (some ⟨g, 0, none⟩))) := hBN.a.set 12 _ rfl rfl rfl rfl rfl rfl rfl (fun e => (by cases e)) (fun e => (by cases e)) (fun _ => ⟨rfl, rfl⟩) ⟨_, _, _, rfl⟩
 have HC := lH (bput_any h12 (Nat.zero_le _) ⟨4, 0, ⟨#[]⟩⟩)
 have HH := lH h12
 clear hBN h12
 go_wp2_with (first | (go_at_call 101; refine (bwithin_any _ _).mono ?_; simp only [hdl, hdh]; rintro e2 w2 ⟨rfl, rfl⟩) | (go_at_call 105; refine HC.out.mono ?_; rintro e3 w3 ⟨rfl, vo, h3, g3⟩; have H3 := lH h3; have G3 := lH g3; have q13 : w3.cell? ⟨D, 13, none⟩ = some (.int .i64 0) := h3.k.cell 13; clear h3 g3))
 go_ret
 exact ⟨D, _, rfl, H3.out, (HBN.out.b.trans (bd_set_below HBN.out.a 12 _)).trans (HH.out.below G3.out)⟩
theorem bnew_sized0 (m : Lm) (kind len : Int) (w : World) (h0 : 0 ≤ m.line) (h1 : m.line ≤ 65536) (hl : 0 ≤ len) (hh0 : 0 ≤ m.head) (hh1 : m.head ≤ 65536) (hk : kind = 1) (hz : len = 0) :
 Calls Tryz.prog 55 #[.agg #[.int .i64 kind, .int .i64 len], .agg #[.int .i64 m.head, .int .i64 m.fields, .int .i64 m.line, .int .i64 m.body, .int .i64 m.fold]] w fun e w' => ∃ D V, e = .returned (.pointer (some ⟨D, 0, none⟩)) ∧ BdAt w' D w.heap.size m (bNew m kind len) V ∧ Below w.heap.size w w' := by
 have HN := lH (lnew_any m.line h0 h1)
 have hdl : decide (0 ≤ m.line ∧ m.line ≤ 65536) = true := dT ⟨h0, h1⟩
 have hdh : decide (0 ≤ m.head ∧ m.head ≤ 65536) = true := dT ⟨hh0, hh1⟩
 have d1 : decide (len < 0) = false := dF (by omega)
 have e0 : (kind == 0) = false := by simp [hk]
 have e1 : (kind == 1) = true := by simp [hk]
 have e2 : (kind == 2) = false := by simp [hk]
 have e3 : (kind == 3) = false := by simp [hk]
 have ez : (len == 0) = true := by simp [hz]
 have hB : bNew m kind len = ({ bs0 m len with md := .sized } : BdS).ends := by
  unfold bNew
  simp only
  rw [if_neg (by omega)]
  rw [if_neg (by omega), if_pos hk, if_pos hz]
  rfl
 rw [hB]
 clear hB h0 h1 hl hh0 hh1 hk hz
 go_enter Tryz.func55, Tryz.ntmps55
 go_upto_region 4 with (go_at_call 63; refine (HN.out _).mono ?_; rintro e1 w1 ⟨rfl, h1⟩; subst h1)
 refine wp_here 4 ?_
 intro W hW
 have hBN : BnAt w W (w.heap.size + 1 + 1) (w.heap.size + 3) m kind len (.pointer (some ⟨w.heap.size + 3, 0, none⟩)) := by rw [hW]; exact bnew_base w _ m kind len (.pointer (some ⟨w.heap.size + 3, 0, none⟩)) (w.heap.size + 3) ((Below.refl _ _).alloc (by simp) _)
 have hg : Blk W (w.heap.size + 3) ((ln0 m.line).row (.slice none 0 0)) 140 := by rw [hW]; exact Blk.new' (by simp)
 have hg0 : w.heap.size ≤ w.heap.size + 3 := by omega
 clear hW HN
 have HG := lH hg
 have HG0 := lH hg0
 clear hg hg0
 generalize w.heap.size + 3 = g at hBN HG HG0
 have yF0 : W.cell? ⟨w.heap.size, 0, none⟩ = some (.int .i64 kind) := hBN.f.cell 0
 have yF1 : W.cell? ⟨w.heap.size, 1, none⟩ = some (.int .i64 len) := hBN.f.cell 1
 have yL0 : W.cell? ⟨w.heap.size + 1, 0, none⟩ = some (.int .i64 m.head) := hBN.l.cell 0
 have yL2 : W.cell? ⟨w.heap.size + 1, 2, none⟩ = some (.int .i64 m.line) := hBN.l.cell 2
 have fD := hBN.fD
 have lD := hBN.lD
 have HBN := lH hBN
 generalize w.heap.size + 1 + 1 = D at HBN hBN fD lD ⊢
 have y5 : W.cell? ⟨D, 5, none⟩ = some (.func (.func 100) #[.pointer (some ⟨D, 0, none⟩)] #[]) := hBN.a.k.cell 5
 have y7 : W.cell? ⟨D, 7, none⟩ = some (.int .i64 len) := hBN.a.k.cell 7
 have y11 : W.cell? ⟨D, 11, none⟩ = some (.bool false) := hBN.a.k.cell 11
 have y12 : W.cell? ⟨D, 12, none⟩ = some (.bool false) := hBN.a.k.cell 12
 have y13 : W.cell? ⟨D, 13, none⟩ = some (.int .i64 0) := hBN.a.k.cell 13
 have z5 : W.frozen? ⟨D, 5, none⟩ = false := hBN.a.k.froz 5
 have z11 : W.frozen? ⟨D, 11, none⟩ = false := hBN.a.k.froz 11
 have z12 : W.frozen? ⟨D, 12, none⟩ = false := hBN.a.k.froz 12
 have z13 : W.frozen? ⟨D, 13, none⟩ = false := hBN.a.k.froz 13
 have h5 : BdAt (W.setCell ⟨D, 5, none⟩ (.func (.func 102) #[.pointer (some ⟨D, 0, none⟩)] #[])) D w.heap.size m { bs0 m len with md := .sized } { bv0 D (.pointer (some ⟨g, 0, none⟩)) with vn := .func (.func 102) #[.pointer (some ⟨D, 0, none⟩)] #[] } := hBN.a.set 5 _ rfl rfl rfl rfl rfl rfl rfl (fun _ => rfl) (fun e => (by cases e)) (fun _ => ⟨rfl, rfl⟩) ⟨_, _, _, rfl⟩
 have h12 : BdAt ((W.setCell ⟨D, 5, none⟩ (.func (.func 102) #[.pointer (some ⟨D, 0, none⟩)] #[])).setCell ⟨D, 12, none⟩ (.bool true)) D w.heap.size m { bs0 m len with md := .sized, over := true } { bv0 D (.pointer (some ⟨g, 0, none⟩)) with vn := .func (.func 102) #[.pointer (some ⟨D, 0, none⟩)] #[] } := h5.set 12 _ rfl rfl rfl rfl rfl rfl rfl (fun e => (by cases e)) (fun e => (by cases e)) (fun _ => ⟨rfl, rfl⟩) ⟨_, _, _, rfl⟩
 have HC := lH (bput_any h12 (Nat.zero_le _) ⟨4, 0, ⟨#[]⟩⟩)
 have HH := lH h12
 have H5 := lH h5
 clear hBN h12 h5
 go_wp2_with (first | (go_at_call 101; refine (bwithin_any _ _).mono ?_; simp only [hdl, hdh]; rintro e2 w2 ⟨rfl, rfl⟩) | (go_at_call 105; refine HC.out.mono ?_; rintro e3 w3 ⟨rfl, vo, h3, g3⟩; have H3 := lH h3; have G3 := lH g3; have q13 : w3.cell? ⟨D, 13, none⟩ = some (.int .i64 0) := h3.k.cell 13; clear h3 g3))
 go_ret
 exact ⟨D, _, rfl, H3.out, ((HBN.out.b.trans (bd_set_below HBN.out.a 5 _)).trans (bd_set_below H5.out 12 _)).trans (HH.out.below G3.out)⟩
theorem bnew_sized1 (m : Lm) (kind len : Int) (w : World) (h0 : 0 ≤ m.line) (h1 : m.line ≤ 65536) (hl : 0 ≤ len) (hh0 : 0 ≤ m.head) (hh1 : m.head ≤ 65536) (hk : kind = 1) (hz : len ≠ 0) :
 Calls Tryz.prog 55 #[.agg #[.int .i64 kind, .int .i64 len], .agg #[.int .i64 m.head, .int .i64 m.fields, .int .i64 m.line, .int .i64 m.body, .int .i64 m.fold]] w fun e w' => ∃ D V, e = .returned (.pointer (some ⟨D, 0, none⟩)) ∧ BdAt w' D w.heap.size m (bNew m kind len) V ∧ Below w.heap.size w w' := by
 have HN := lH (lnew_any m.line h0 h1)
 have hdl : decide (0 ≤ m.line ∧ m.line ≤ 65536) = true := dT ⟨h0, h1⟩
 have hdh : decide (0 ≤ m.head ∧ m.head ≤ 65536) = true := dT ⟨hh0, hh1⟩
 have d1 : decide (len < 0) = false := dF (by omega)
 have e0 : (kind == 0) = false := by simp [hk]
 have e1 : (kind == 1) = true := by simp [hk]
 have e2 : (kind == 2) = false := by simp [hk]
 have e3 : (kind == 3) = false := by simp [hk]
 have ez : (len == 0) = false := by simp [hz]
 have hB : bNew m kind len = { bs0 m len with md := .sized } := by
  unfold bNew
  simp only
  rw [if_neg (by omega)]
  rw [if_neg (by omega), if_pos hk, if_neg hz]
  rfl
 rw [hB]
 clear hB h0 h1 hl hh0 hh1 hk hz
 go_enter Tryz.func55, Tryz.ntmps55
 go_upto_region 4 with (go_at_call 63; refine (HN.out _).mono ?_; rintro e1 w1 ⟨rfl, h1⟩; subst h1)
 refine wp_here 4 ?_
 intro W hW
 have hBN : BnAt w W (w.heap.size + 1 + 1) (w.heap.size + 3) m kind len (.pointer (some ⟨w.heap.size + 3, 0, none⟩)) := by rw [hW]; exact bnew_base w _ m kind len (.pointer (some ⟨w.heap.size + 3, 0, none⟩)) (w.heap.size + 3) ((Below.refl _ _).alloc (by simp) _)
 have hg : Blk W (w.heap.size + 3) ((ln0 m.line).row (.slice none 0 0)) 140 := by rw [hW]; exact Blk.new' (by simp)
 have hg0 : w.heap.size ≤ w.heap.size + 3 := by omega
 clear hW HN
 have HG := lH hg
 have HG0 := lH hg0
 clear hg hg0
 generalize w.heap.size + 3 = g at hBN HG HG0
 have yF0 : W.cell? ⟨w.heap.size, 0, none⟩ = some (.int .i64 kind) := hBN.f.cell 0
 have yF1 : W.cell? ⟨w.heap.size, 1, none⟩ = some (.int .i64 len) := hBN.f.cell 1
 have yL0 : W.cell? ⟨w.heap.size + 1, 0, none⟩ = some (.int .i64 m.head) := hBN.l.cell 0
 have yL2 : W.cell? ⟨w.heap.size + 1, 2, none⟩ = some (.int .i64 m.line) := hBN.l.cell 2
 have fD := hBN.fD
 have lD := hBN.lD
 have HBN := lH hBN
 generalize w.heap.size + 1 + 1 = D at HBN hBN fD lD ⊢
 have y5 : W.cell? ⟨D, 5, none⟩ = some (.func (.func 100) #[.pointer (some ⟨D, 0, none⟩)] #[]) := hBN.a.k.cell 5
 have y7 : W.cell? ⟨D, 7, none⟩ = some (.int .i64 len) := hBN.a.k.cell 7
 have y11 : W.cell? ⟨D, 11, none⟩ = some (.bool false) := hBN.a.k.cell 11
 have y12 : W.cell? ⟨D, 12, none⟩ = some (.bool false) := hBN.a.k.cell 12
 have y13 : W.cell? ⟨D, 13, none⟩ = some (.int .i64 0) := hBN.a.k.cell 13
 have z5 : W.frozen? ⟨D, 5, none⟩ = false := hBN.a.k.froz 5
 have z11 : W.frozen? ⟨D, 11, none⟩ = false := hBN.a.k.froz 11
 have z12 : W.frozen? ⟨D, 12, none⟩ = false := hBN.a.k.froz 12
 have z13 : W.frozen? ⟨D, 13, none⟩ = false := hBN.a.k.froz 13
 have h5 : BdAt (W.setCell ⟨D, 5, none⟩ (.func (.func 102) #[.pointer (some ⟨D, 0, none⟩)] #[])) D w.heap.size m { bs0 m len with md := .sized } { bv0 D (.pointer (some ⟨g, 0, none⟩)) with vn := .func (.func 102) #[.pointer (some ⟨D, 0, none⟩)] #[] } := hBN.a.set 5 _ rfl rfl rfl rfl rfl rfl rfl (fun _ => rfl) (fun e => (by cases e)) (fun _ => ⟨rfl, rfl⟩) ⟨_, _, _, rfl⟩
 have h12 : BdAt ((W.setCell ⟨D, 5, none⟩ (.func (.func 102) #[.pointer (some ⟨D, 0, none⟩)] #[])).setCell ⟨D, 12, none⟩ (.bool false)) D w.heap.size m { bs0 m len with md := .sized } { bv0 D (.pointer (some ⟨g, 0, none⟩)) with vn := .func (.func 102) #[.pointer (some ⟨D, 0, none⟩)] #[] } := h5.set 12 _ rfl rfl rfl rfl rfl rfl rfl (fun _ => rfl) (fun e => (by cases e)) (fun _ => ⟨rfl, rfl⟩) ⟨_, _, _, rfl⟩
 have HH := lH h12
 have H5 := lH h5
 clear hBN h12 h5
 go_wp2_with (go_at_call 101; refine (bwithin_any _ _).mono ?_; simp only [hdl, hdh]; rintro e2 w2 ⟨rfl, rfl⟩)
 go_ret
 exact ⟨D, _, rfl, HH.out, (HBN.out.b.trans (bd_set_below HBN.out.a 5 _)).trans (bd_set_below H5.out 12 _)⟩
theorem bnew_chunked (m : Lm) (kind len : Int) (w : World) (h0 : 0 ≤ m.line) (h1 : m.line ≤ 65536) (hl : 0 ≤ len) (hh0 : 0 ≤ m.head) (hh1 : m.head ≤ 65536) (hk : kind = 2) :
 Calls Tryz.prog 55 #[.agg #[.int .i64 kind, .int .i64 len], .agg #[.int .i64 m.head, .int .i64 m.fields, .int .i64 m.line, .int .i64 m.body, .int .i64 m.fold]] w fun e w' => ∃ D V, e = .returned (.pointer (some ⟨D, 0, none⟩)) ∧ BdAt w' D w.heap.size m (bNew m kind len) V ∧ Below w.heap.size w w' := by
 have HN := lH (lnew_any m.line h0 h1)
 have hdl : decide (0 ≤ m.line ∧ m.line ≤ 65536) = true := dT ⟨h0, h1⟩
 have hdh : decide (0 ≤ m.head ∧ m.head ≤ 65536) = true := dT ⟨hh0, hh1⟩
 have d1 : decide (len < 0) = false := dF (by omega)
 have e0 : (kind == 0) = false := by simp [hk]
 have e1 : (kind == 1) = false := by simp [hk]
 have e2 : (kind == 2) = true := by simp [hk]
 have e3 : (kind == 3) = false := by simp [hk]
 have hB : bNew m kind len = { bs0 m len with md := .size } := by
  unfold bNew
  simp only
  rw [if_neg (by omega)]
  rw [if_neg (by omega), if_neg (by omega), if_pos hk]
  rfl
 rw [hB]
 clear hB h0 h1 hl hh0 hh1 hk
 go_enter Tryz.func55, Tryz.ntmps55
 go_upto_region 4 with (go_at_call 63; refine (HN.out _).mono ?_; rintro e1 w1 ⟨rfl, h1⟩; subst h1)
 refine wp_here 4 ?_
 intro W hW
 have hBN : BnAt w W (w.heap.size + 1 + 1) (w.heap.size + 3) m kind len (.pointer (some ⟨w.heap.size + 3, 0, none⟩)) := by rw [hW]; exact bnew_base w _ m kind len (.pointer (some ⟨w.heap.size + 3, 0, none⟩)) (w.heap.size + 3) ((Below.refl _ _).alloc (by simp) _)
 have hg : Blk W (w.heap.size + 3) ((ln0 m.line).row (.slice none 0 0)) 140 := by rw [hW]; exact Blk.new' (by simp)
 have hg0 : w.heap.size ≤ w.heap.size + 3 := by omega
 clear hW HN
 have HG := lH hg
 have HG0 := lH hg0
 clear hg hg0
 generalize w.heap.size + 3 = g at hBN HG HG0
 have yF0 : W.cell? ⟨w.heap.size, 0, none⟩ = some (.int .i64 kind) := hBN.f.cell 0
 have yF1 : W.cell? ⟨w.heap.size, 1, none⟩ = some (.int .i64 len) := hBN.f.cell 1
 have yL0 : W.cell? ⟨w.heap.size + 1, 0, none⟩ = some (.int .i64 m.head) := hBN.l.cell 0
 have yL2 : W.cell? ⟨w.heap.size + 1, 2, none⟩ = some (.int .i64 m.line) := hBN.l.cell 2
 have fD := hBN.fD
 have lD := hBN.lD
 have HBN := lH hBN
 generalize w.heap.size + 1 + 1 = D at HBN hBN fD lD ⊢
 have y5 : W.cell? ⟨D, 5, none⟩ = some (.func (.func 100) #[.pointer (some ⟨D, 0, none⟩)] #[]) := hBN.a.k.cell 5
 have y7 : W.cell? ⟨D, 7, none⟩ = some (.int .i64 len) := hBN.a.k.cell 7
 have y11 : W.cell? ⟨D, 11, none⟩ = some (.bool false) := hBN.a.k.cell 11
 have y12 : W.cell? ⟨D, 12, none⟩ = some (.bool false) := hBN.a.k.cell 12
 have y13 : W.cell? ⟨D, 13, none⟩ = some (.int .i64 0) := hBN.a.k.cell 13
 have z5 : W.frozen? ⟨D, 5, none⟩ = false := hBN.a.k.froz 5
 have z11 : W.frozen? ⟨D, 11, none⟩ = false := hBN.a.k.froz 11
 have z12 : W.frozen? ⟨D, 12, none⟩ = false := hBN.a.k.froz 12
 have z13 : W.frozen? ⟨D, 13, none⟩ = false := hBN.a.k.froz 13
 have HH := lH (to_size hBN HG.out HG0.out)
 clear hBN
 go_wp2_with (go_at_call 101; refine (bwithin_any _ _).mono ?_; simp only [hdl, hdh]; rintro e2 w2 ⟨rfl, rfl⟩)
 go_ret
 exact ⟨D, _, rfl, HH.out, HBN.out.b.trans (bd_set_below HBN.out.a 5 _)⟩
theorem bnew_close (m : Lm) (kind len : Int) (w : World) (h0 : 0 ≤ m.line) (h1 : m.line ≤ 65536) (hl : 0 ≤ len) (hh0 : 0 ≤ m.head) (hh1 : m.head ≤ 65536) (hk : kind = 3) :
 Calls Tryz.prog 55 #[.agg #[.int .i64 kind, .int .i64 len], .agg #[.int .i64 m.head, .int .i64 m.fields, .int .i64 m.line, .int .i64 m.body, .int .i64 m.fold]] w fun e w' => ∃ D V, e = .returned (.pointer (some ⟨D, 0, none⟩)) ∧ BdAt w' D w.heap.size m (bNew m kind len) V ∧ Below w.heap.size w w' := by
 have HN := lH (lnew_any m.line h0 h1)
 have hdl : decide (0 ≤ m.line ∧ m.line ≤ 65536) = true := dT ⟨h0, h1⟩
 have hdh : decide (0 ≤ m.head ∧ m.head ≤ 65536) = true := dT ⟨hh0, hh1⟩
 have d1 : decide (len < 0) = false := dF (by omega)
 have e0 : (kind == 0) = false := by simp [hk]
 have e1 : (kind == 1) = false := by simp [hk]
 have e2 : (kind == 2) = false := by simp [hk]
 have e3 : (kind == 3) = true := by simp [hk]
 have hB : bNew m kind len = { bs0 m len with md := .rest, till := true } := by
  unfold bNew
  simp only
  rw [if_neg (by omega)]
  rw [if_neg (by omega), if_neg (by omega), if_neg (by omega), if_pos hk]
  rfl
 rw [hB]
 clear hB h0 h1 hl hh0 hh1 hk
 go_enter Tryz.func55, Tryz.ntmps55
 go_upto_region 4 with (go_at_call 63; refine (HN.out _).mono ?_; rintro e1 w1 ⟨rfl, h1⟩; subst h1)
 refine wp_here 4 ?_
 intro W hW
 have hBN : BnAt w W (w.heap.size + 1 + 1) (w.heap.size + 3) m kind len (.pointer (some ⟨w.heap.size + 3, 0, none⟩)) := by rw [hW]; exact bnew_base w _ m kind len (.pointer (some ⟨w.heap.size + 3, 0, none⟩)) (w.heap.size + 3) ((Below.refl _ _).alloc (by simp) _)
 have hg : Blk W (w.heap.size + 3) ((ln0 m.line).row (.slice none 0 0)) 140 := by rw [hW]; exact Blk.new' (by simp)
 have hg0 : w.heap.size ≤ w.heap.size + 3 := by omega
 clear hW HN
 have HG := lH hg
 have HG0 := lH hg0
 clear hg hg0
 generalize w.heap.size + 3 = g at hBN HG HG0
 have yF0 : W.cell? ⟨w.heap.size, 0, none⟩ = some (.int .i64 kind) := hBN.f.cell 0
 have yF1 : W.cell? ⟨w.heap.size, 1, none⟩ = some (.int .i64 len) := hBN.f.cell 1
 have yL0 : W.cell? ⟨w.heap.size + 1, 0, none⟩ = some (.int .i64 m.head) := hBN.l.cell 0
 have yL2 : W.cell? ⟨w.heap.size + 1, 2, none⟩ = some (.int .i64 m.line) := hBN.l.cell 2
 have fD := hBN.fD
 have lD := hBN.lD
 have HBN := lH hBN
 generalize w.heap.size + 1 + 1 = D at HBN hBN fD lD ⊢
 have y5 : W.cell? ⟨D, 5, none⟩ = some (.func (.func 100) #[.pointer (some ⟨D, 0, none⟩)] #[]) := hBN.a.k.cell 5
 have y7 : W.cell? ⟨D, 7, none⟩ = some (.int .i64 len) := hBN.a.k.cell 7
 have y11 : W.cell? ⟨D, 11, none⟩ = some (.bool false) := hBN.a.k.cell 11
 have y12 : W.cell? ⟨D, 12, none⟩ = some (.bool false) := hBN.a.k.cell 12
 have y13 : W.cell? ⟨D, 13, none⟩ = some (.int .i64 0) := hBN.a.k.cell 13
 have z5 : W.frozen? ⟨D, 5, none⟩ = false := hBN.a.k.froz 5
 have z11 : W.frozen? ⟨D, 11, none⟩ = false := hBN.a.k.froz 11
 have z12 : W.frozen? ⟨D, 12, none⟩ = false := hBN.a.k.froz 12
 have z13 : W.frozen? ⟨D, 13, none⟩ = false := hBN.a.k.froz 13
 have h5 : BdAt (W.setCell ⟨D, 5, none⟩ (.func (.func 104) #[.pointer (some ⟨D, 0, none⟩)] #[])) D w.heap.size m { bs0 m len with md := .rest } { bv0 D (.pointer (some ⟨g, 0, none⟩)) with vn := .func (.func 104) #[.pointer (some ⟨D, 0, none⟩)] #[] } := hBN.a.set 5 _ rfl rfl rfl rfl rfl rfl rfl (fun _ => rfl) (fun e => (by cases e)) (fun _ => ⟨rfl, rfl⟩) ⟨_, _, _, rfl⟩
 have h12 : BdAt ((W.setCell ⟨D, 5, none⟩ (.func (.func 104) #[.pointer (some ⟨D, 0, none⟩)] #[])).setCell ⟨D, 11, none⟩ (.bool true)) D w.heap.size m { bs0 m len with md := .rest, till := true } { bv0 D (.pointer (some ⟨g, 0, none⟩)) with vn := .func (.func 104) #[.pointer (some ⟨D, 0, none⟩)] #[] } := h5.set 11 _ rfl rfl rfl rfl rfl rfl rfl (fun _ => rfl) (fun e => (by cases e)) (fun _ => ⟨rfl, rfl⟩) ⟨_, _, _, rfl⟩
 have HH := lH h12
 have H5 := lH h5
 clear hBN h12 h5
 go_wp2_with (go_at_call 101; refine (bwithin_any _ _).mono ?_; simp only [hdl, hdh]; rintro e2 w2 ⟨rfl, rfl⟩)
 go_ret
 exact ⟨D, _, rfl, HH.out, (HBN.out.b.trans (bd_set_below HBN.out.a 5 _)).trans (bd_set_below H5.out 11 _)⟩
theorem bnew_else (m : Lm) (kind len : Int) (w : World) (h0 : 0 ≤ m.line) (h1 : m.line ≤ 65536) (hl : 0 ≤ len) (hh0 : 0 ≤ m.head) (hh1 : m.head ≤ 65536) (hk : kind ≠ 0 ∧ kind ≠ 1 ∧ kind ≠ 2 ∧ kind ≠ 3) :
 Calls Tryz.prog 55 #[.agg #[.int .i64 kind, .int .i64 len], .agg #[.int .i64 m.head, .int .i64 m.fields, .int .i64 m.line, .int .i64 m.body, .int .i64 m.fold]] w fun e w' => ∃ D V, e = .returned (.pointer (some ⟨D, 0, none⟩)) ∧ BdAt w' D w.heap.size m (bNew m kind len) V ∧ Below w.heap.size w w' := by
 have HN := lH (lnew_any m.line h0 h1)
 have hdl : decide (0 ≤ m.line ∧ m.line ≤ 65536) = true := dT ⟨h0, h1⟩
 have hdh : decide (0 ≤ m.head ∧ m.head ≤ 65536) = true := dT ⟨hh0, hh1⟩
 have d1 : decide (len < 0) = false := dF (by omega)
 have e0 : (kind == 0) = false := by simp [hk]
 have e1 : (kind == 1) = false := by simp [hk]
 have e2 : (kind == 2) = false := by simp [hk]
 have e3 : (kind == 3) = false := by simp [hk]
 have hB : bNew m kind len = (bs0 m len).wrong 1 := by
  unfold bNew
  simp only
  rw [if_neg (by omega)]
  rw [if_neg (by omega), if_neg (by omega), if_neg (by omega), if_neg (by omega)]
  rfl
 rw [hB]
 clear hB h0 h1 hl hh0 hh1 hk
 go_enter Tryz.func55, Tryz.ntmps55
 go_upto_region 4 with (go_at_call 63; refine (HN.out _).mono ?_; rintro e1 w1 ⟨rfl, h1⟩; subst h1)
 refine wp_here 4 ?_
 intro W hW
 have hBN : BnAt w W (w.heap.size + 1 + 1) (w.heap.size + 3) m kind len (.pointer (some ⟨w.heap.size + 3, 0, none⟩)) := by rw [hW]; exact bnew_base w _ m kind len (.pointer (some ⟨w.heap.size + 3, 0, none⟩)) (w.heap.size + 3) ((Below.refl _ _).alloc (by simp) _)
 have hg : Blk W (w.heap.size + 3) ((ln0 m.line).row (.slice none 0 0)) 140 := by rw [hW]; exact Blk.new' (by simp)
 have hg0 : w.heap.size ≤ w.heap.size + 3 := by omega
 clear hW HN
 have HG := lH hg
 have HG0 := lH hg0
 clear hg hg0
 generalize w.heap.size + 3 = g at hBN HG HG0
 have yF0 : W.cell? ⟨w.heap.size, 0, none⟩ = some (.int .i64 kind) := hBN.f.cell 0
 have yF1 : W.cell? ⟨w.heap.size, 1, none⟩ = some (.int .i64 len) := hBN.f.cell 1
 have yL0 : W.cell? ⟨w.heap.size + 1, 0, none⟩ = some (.int .i64 m.head) := hBN.l.cell 0
 have yL2 : W.cell? ⟨w.heap.size + 1, 2, none⟩ = some (.int .i64 m.line) := hBN.l.cell 2
 have fD := hBN.fD
 have lD := hBN.lD
 have HBN := lH hBN
 generalize w.heap.size + 1 + 1 = D at HBN hBN fD lD ⊢
 have y5 : W.cell? ⟨D, 5, none⟩ = some (.func (.func 100) #[.pointer (some ⟨D, 0, none⟩)] #[]) := hBN.a.k.cell 5
 have y7 : W.cell? ⟨D, 7, none⟩ = some (.int .i64 len) := hBN.a.k.cell 7
 have y11 : W.cell? ⟨D, 11, none⟩ = some (.bool false) := hBN.a.k.cell 11
 have y12 : W.cell? ⟨D, 12, none⟩ = some (.bool false) := hBN.a.k.cell 12
 have y13 : W.cell? ⟨D, 13, none⟩ = some (.int .i64 0) := hBN.a.k.cell 13
 have z5 : W.frozen? ⟨D, 5, none⟩ = false := hBN.a.k.froz 5
 have z11 : W.frozen? ⟨D, 11, none⟩ = false := hBN.a.k.froz 11
 have z12 : W.frozen? ⟨D, 12, none⟩ = false := hBN.a.k.froz 12
 have z13 : W.frozen? ⟨D, 13, none⟩ = false := hBN.a.k.froz 13
 have h13 : BdAt (W.setCell ⟨D, 13, none⟩ (.int .i64 1)) D w.heap.size m { bs0 m len with e := 1 } (bv0 D (.pointer (some ⟨g, 0, none⟩))) := hBN.a.set 13 _ rfl rfl rfl rfl rfl rfl rfl (fun e => (by cases e)) (fun e => (by cases e)) (fun _ => ⟨rfl, rfl⟩) ⟨_, _, _, rfl⟩
 have HC := lH (bput_any h13 (Nat.zero_le _) ⟨5, 1, ⟨#[]⟩⟩)
 have HH := lH h13
 clear hBN h13
 go_wp2_with (first | (go_at_call 101; refine (bwithin_any _ _).mono ?_; simp only [hdl, hdh]; rintro e2 w2 ⟨rfl, rfl⟩) | (go_at_call 105; refine HC.out.mono ?_; rintro e3 w3 ⟨rfl, vo, h3, g3⟩; have H3 := lH h3; have G3 := lH g3; clear h3 g3))
 go_ret
 exact ⟨D, _, rfl, H3.out, (HBN.out.b.trans (bd_set_below HBN.out.a 13 _)).trans (HH.out.below G3.out)⟩
theorem bnew_any (m : Lm) (kind len : Int) (w : World) :
 Calls Tryz.prog 55 #[.agg #[.int .i64 kind, .int .i64 len], .agg #[.int .i64 m.head, .int .i64 m.fields, .int .i64 m.line, .int .i64 m.body, .int .i64 m.fold]] w fun e w' => ∃ D V, e = .returned (.pointer (some ⟨D, 0, none⟩)) ∧ BdAt w' D w.heap.size m (bNew m kind len) V ∧ Below w.heap.size w w' := by
 by_cases h0 : m.line < 0 ∨ 65536 < m.line
 ·exact bnew_f m kind len w h0
 have l0 : 0 ≤ m.line := by omega
 have l1 : m.line ≤ 65536 := by omega
 by_cases h1 : len < 0
 ·exact bnew_len m kind len w l0 l1 h1
 have hl : 0 ≤ len := by omega
 by_cases h2 : m.head < 0 ∨ 65536 < m.head
 ·exact bnew_head m kind len w l0 l1 hl h2
 have hh0 : 0 ≤ m.head := by omega
 have hh1 : m.head ≤ 65536 := by omega
 by_cases k0 : kind = 0
 ·exact bnew_none m kind len w l0 l1 hl hh0 hh1 k0
 by_cases k1 : kind = 1
 ·by_cases hz : len = 0
  ·exact bnew_sized0 m kind len w l0 l1 hl hh0 hh1 k1 hz
  ·exact bnew_sized1 m kind len w l0 l1 hl hh0 hh1 k1 hz
 by_cases k2 : kind = 2
 ·exact bnew_chunked m kind len w l0 l1 hl hh0 hh1 k2
 by_cases k3 : kind = 3
 ·exact bnew_close m kind len w l0 l1 hl hh0 hh1 k3
 exact bnew_else m kind len w l0 l1 hl hh0 hh1 ⟨k0, k1, k2, k3⟩
end Go.Proofs.YtaojfiegnebbdaaGreatDoor
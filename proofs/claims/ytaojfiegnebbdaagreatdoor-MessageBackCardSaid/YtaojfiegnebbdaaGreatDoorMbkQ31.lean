/- Texts packed for one claim, 31 of 52: HHead HdA RdP Read16 Read22 HdD. -/
import Derived.Test.YtaojfiegnebbdaaGreatDoorMbkQ18
import Derived.Lib.LazyBuf
import Derived.Test.YtaojfiegnebbdaaGreatDoorMbkQ17
set_option maxRecDepth 100000
set_option maxHeartbeats 16000000
set_option linter.unusedSimpArgs false
set_option linter.unusedVariables false
-- HHead
namespace Go.Proofs.YtaojfiegnebbdaaGreatDoor
open Go.RowKit
theorem hbegun_any {w : World} {b g B : Nat} {vl va vf : Value} {kind a fields c d fold : Int} {p : PaS} (h : PaAt w b g B vl va vf kind a fields c d fold p) :
 Calls Tryz.prog 33 #[.pointer (some ⟨b, 0, none⟩)] w fun e w' => e = .returned (.bool (!p.all.isEmpty || p.fin || p.ln.within)) ∧ w = w' := by
 have a0 : w.cell? ⟨b, 0, none⟩ = some (.pointer (some ⟨g, 0, none⟩)) := h.k.cell 0
 have a7 : w.cell? ⟨b, 7, none⟩ = some va := h.k.cell 7
 have a8 : w.cell? ⟨b, 8, none⟩ = some (.bool p.fin) := h.k.cell 8
 have HW := lH (lwithin_any h.l)
 obtain ⟨pp, cc, hsh⟩ := h.o.shape
 rw [hsh] at a7
 clear h hsh
 obtain ⟨F, hF⟩ : ∃ F, F = p.fin := ⟨_, rfl⟩
 obtain ⟨Z, hZ⟩ : ∃ F, F = p.ln.within := ⟨_, rfl⟩
 rw [← hF] at a8 ⊢
 rw [← hZ] at HW ⊢
 clear hF hZ
 cases hl : p.all with
 | nil =>
   rw [hl] at a7
   cases F
   ·go_enter Tryz.func33, Tryz.ntmps33
    go_wp2_with (go_at_call 64; refine HW.out.mono ?_; rintro e1 w1 ⟨rfl, rfl⟩)
    go_ret
    exact ⟨rfl, rfl⟩
   ·go_enter Tryz.func33, Tryz.ntmps33
    go_wp2_with (go_at_call 64; refine HW.out.mono ?_; rintro e1 w1 ⟨rfl, rfl⟩)
    go_ret
    exact ⟨rfl, rfl⟩
 | cons x r =>
   rw [hl] at a7
   have hlen : (x :: r).length = r.length + 1 := rfl
   rw [hlen] at a7
   go_enter Tryz.func33, Tryz.ntmps33
   go_wp2_with (go_at_call 64; refine HW.out.mono ?_; rintro e1 w1 ⟨rfl, rfl⟩)
   go_ret
   exact ⟨rfl, rfl⟩
theorem flat_one (l : List Fd) : ∀ u ∈ flat l, u.oneCell' = true := by
 intro u hu
 unfold flat at hu
 obtain ⟨f, _, hf⟩ := List.mem_flatMap.1 hu
 simp at hf
 rcases hf with rfl | rfl <;> rfl
theorem clone_any (v : Value) (l : List Fd) (w : World) (h : Flds w v l) (hl : l.length ≤ 1000000) :
 Calls Tryz.prog 36 #[v] w fun e w' => ∃ p c, e = .returned (.slice p l.length c) ∧ OwnF w' w.heap.size (.slice p l.length c) l ∧ Below w.heap.size w w' := by
 obtain ⟨p, c, rfl, hc⟩ := h
 have q27 : ∀ (W : World) (a : Option Addr) (n c : Nat), (binOp .eql 32 (.slice a n c) (.slice none 0 0)).run Tryz.prog W = .ok (.bool a.isNone) W := fun W a n c => Lib.run_eql_slice_nil W _ _ a n c 0 0 Tryz.underlying32
 cases p with
 | none =>
   have h0 : l = [] := by
    cases l with
    | nil => rfl
    | cons x r =>
      obtain ⟨b, off, hp, _⟩ := hc 0 (by simp)
      cases hp
   subst h0
   clear hc
   go_enter Tryz.func36, Tryz.ntmps36
   go_wp2_with fail
   go_ret
   exact ⟨none, 0, rfl, OwnF.start _ _, Below.refl _ _⟩
 | some ad =>
   have hnews : ∀ j u, (flat l)[j]? = some u → (w.alloc (.cells #[] 75)).cell? (ad.add j) = some u := by
    intro j u hj
    have hlj : j < (flat l).length := by
     rcases Nat.lt_or_ge j (flat l).length with h | h
     ·exact h
     ·rw [List.getElem?_eq_none h] at hj
      cases hj
    have hfl : (flat l).length = l.length * 2 := flat_length l
    have hk : j / 2 < l.length := by omega
    obtain ⟨b, off, hp, c1, c2⟩ := hc (j / 2) hk
    injection hp with hp
    subst hp
    have hadd : (⟨b, off, none⟩ : Addr).add j = ⟨b, off + j, none⟩ := by unfold Addr.add; split <;> simp_all
    rw [hadd]
    have hw : ∀ q x, w.cell? q = some x → (w.alloc (.cells #[] 75)).cell? q = some x := fun q x hq => touch_cell (P := fun _ => False) ((Touch.refl _ w).alloc _) id hq
    refine hw _ _ ?_
    have hat := flat_at l (j / 2) hk
    rcases Nat.mod_two_eq_zero_or_one j with hm | hm
    ·have e : j = 2 * (j / 2) := by omega
     rw [← e] at hat c1
     rw [c1, ← hj, hat.1]
    ·have e : j = 2 * (j / 2) + 1 := by omega
     have e2 : off + 2 * (j / 2) + 1 = off + j := by omega
     rw [← e] at hat
     rw [e2] at c2
     rw [c2, ← hj, hat.2]
   have HC := lH hnews
   have HL := lH hl
   clear hc hnews hl
   obtain ⟨i0, hi, hz0, hz1, hz2⟩ := info_parts info_field
   go_enter Tryz.func36, Tryz.ntmps36
   go_wp2_with (at_builtin; refine wpList_append_own _ rfl _ _ 32 rfl w.heap.size 75 i0 _ 2 32 Tryz.underlying32 hi hz0 hz1 hz2 rfl (by decide) _ _ _ rfl (OwnF.empty w) ad l.length c (flat l) rfl ?c1 HC.out ?c2 ?c3 ?c4 ?c5 ?_)
   case c1 => exact flat_length l
   case c2 => exact flat_one l
   case c3 => have := HL.out; unfold maxLen; simp; omega
   case c4 => have := HL.out; simp; omega
   case c5 => simp
   intro v' w1 hown1 hg _
   have hown2 : World.ownsRow w1 w.heap.size 75 2 v' l.length (flat l) := by
    have h := hown1
    rw [show flat [] = [] from rfl] at h
    simpa using h
   obtain ⟨p', c', rfl⟩ := own_slice hown2
   go_wp2_with fail
   go_ret
   exact ⟨p', c', rfl, hown2, ((Below.refl _ w).alloc (nR _) _).grown hg (by simp) (fun k hk => by simp [Value.ownBlock] at hk; omega)⟩
def doneH (p : PaS) : Hd := if (p.fin && p.e == 0) = true then p.hd else hd0
theorem hhead_any {w : World} {b g B : Nat} {vl va vf : Value} {kind a fields c d fold : Int} {p : PaS} (h : PaAt w b g B vl va vf kind a fields c d fold p) (hl : p.hd.fs.length ≤ 1000000) :
 Calls Tryz.prog 53 #[.pointer (some ⟨b, 0, none⟩)] w fun e w' => ∃ f, e = .returned (.agg ((doneH p).row f)) ∧ OwnF w' w.heap.size f (doneH p).fs ∧ Below w.heap.size w w' := by
 obtain ⟨DN, hDN⟩ : ∃ D, D = (p.fin && p.e == 0) := ⟨_, rfl⟩
 have hbl : b < w.heap.size := h.k.lt
 have HD := lH (fun (W : World) (hW : PaAt W b g B vl va vf kind a fields c d fold p) => hdone_any hW)
 rw [← hDN] at HD
 have h1 : PaAt (w.alloc (.cells #[.string ⟨#[]⟩, .string ⟨#[]⟩, .int .i64 0, .int .i64 0, .string ⟨#[]⟩, .slice none 0 0] 34)) b g B vl va vf kind a fields c d fold p := h.touch (P := fun _ => False) ((Touch.refl _ w).alloc _) id id (fun _ _ => id)
 have H1 := lH h1
 cases DN with
 | false =>
   have hR : doneH p = hd0 := by unfold doneH; rw [← hDN]; rfl
   have HR := lH hR
   rw [hR]
   clear hR hDN h h1
   go_enter Tryz.func53, Tryz.ntmps53
   go_wp2_with (go_at_call 52; refine (HD.out _ H1.out).mono ?_; rintro e1 w1 ⟨rfl, h1⟩; subst h1)
   refine bodyPost_ret (results_cell_row (Tryz.results53) _ _ w.heap.size 34 (hd0.row nilS) (0, 0) _ rfl ?_ Tryz.underlying34 rfl (by kernel_rfl)) rfl ⟨nilS, rfl, ?_, ?_⟩
   ·exact Blk.new _ _ _
   ·exact OwnF.start _ _
   ·exact (Below.refl w.heap.size w).alloc (nR _) _
 | true =>
   have hR : doneH p = p.hd := by unfold doneH; rw [← hDN]; rfl
   rw [hR]
   obtain ⟨Q, hQ⟩ : ∃ Q, Q = p.hd := ⟨_, rfl⟩
   have hk := h1.k
   have hof := h1.f
   rw [← hQ] at hof hl ⊢
   obtain ⟨qm, qt, qk, qn, qr, qf⟩ := Q
   obtain ⟨a9, a10, a11, a12, a13, a14⟩ := bc6 hk 9 10 11 12 13 14
   simp [paRow] at a9 a10 a11 a12 a13 a14
   rw [← hQ] at a9 a10 a11 a12 a13
   simp only at a9 a10 a11 a12 a13 hof hl
   obtain ⟨pv, cv, rfl⟩ := own_slice hof
   have HC := lH (fun (V : World) (hV : Flds V (.slice pv qf.length cv) qf) => clone_any _ qf V hV hl)
   have HF := lH ((hof.alloc (.cells #[.string qm, .string qt, .int .i64 qk, .int .i64 qn, .string qr, .slice pv qf.length cv] 34)).flds)
   clear hR hDN h h1 hof hk hQ hl
   go_enter Tryz.func53, Tryz.ntmps53
   go_wp2_with (first | (go_at_call 52; refine (HD.out _ H1.out).mono ?_; rintro e1 w1 ⟨rfl, h1⟩; subst h1) | (go_at_call 36; refine (HC.out _ HF.out).mono ?_; rintro e1 w2 ⟨p2, c2, rfl, ho2, hb2⟩; have KZ := lH (((Blk.new w #[.string ⟨#[]⟩, .string ⟨#[]⟩, .int .i64 0, .int .i64 0, .string ⟨#[]⟩, .slice none 0 0] 34).alloc (.cells #[.string qm, .string qt, .int .i64 qk, .int .i64 qn, .string qr, .slice pv qf.length cv] 34)).call hb2); have KR := lH ((blk_al2 w #[.string ⟨#[]⟩, .string ⟨#[]⟩, .int .i64 0, .int .i64 0, .string ⟨#[]⟩, .slice none 0 0] #[.string qm, .string qt, .int .i64 qk, .int .i64 qn, .string qr, .slice pv qf.length cv] 34 34).call hb2); have HO2 := lH ho2; have HB2 := lH (below_two hb2); have hs2 := hb2.size; clear ho2 hb2 a9 a10 a11 a12 a13 a14; have z0 := KZ.out.cell 0; have zf0 := KZ.out.froz 0; have z1 := KZ.out.cell 1; have zf1 := KZ.out.froz 1; have z2 := KZ.out.cell 2; have zf2 := KZ.out.froz 2; have z3 := KZ.out.cell 3; have zf3 := KZ.out.froz 3; have z4 := KZ.out.cell 4; have zf4 := KZ.out.froz 4; have z5 := KZ.out.cell 5; have zf5 := KZ.out.froz 5; obtain ⟨r0, r1, r2, r3, r4, r5⟩ := bc6 KR.out 0 1 2 3 4 5; have rf5 := KR.out.froz 5; simp at z0 z1 z2 z3 z4 z5 r0 r1 r2 r3 r4 r5))
   have KZ2 := KZ.out.far (p := ⟨w.heap.size + 1, 5, none⟩) (show w.heap.size ≠ w.heap.size + 1 by omega) (.slice p2 qf.length c2)
   refine bodyPost_ret (results_cell_row (Tryz.results53) _ _ w.heap.size 34 _ (0, 0) _ rfl (blk_set6 KZ2 (.string qm) (.string qt) (.int .i64 qk) (.int .i64 qn) (.string qr) (.slice p2 qf.length c2)) Tryz.underlying34 rfl (by kernel_rfl)) rfl ⟨.slice p2 qf.length c2, rfl, ?_, ?_⟩
   ·exact OwnF.lower (own_set6 (own_set HO2.out (by simp) 5 _) (by simp; omega) _ _ _ _ _ _) (by simp; omega)
   ·exact below_set6 (HB2.out.setCell (p := ⟨w.heap.size + 1, 5, none⟩) (Nat.le_succ _) _) (nR _) _ _ _ _ _ _
end Go.Proofs.YtaojfiegnebbdaaGreatDoor
-- HdA
-- RdP
namespace Go.Proofs.YtaojfiegnebbdaaGreatDoor
open Go.RowKit
def lsum (ls : List (List UInt8)) : Nat := (ls.map fun x => x.length + 2).sum
section
variable {most : Int} {l : List UInt8} {R : List (List UInt8) × Bool × Nat × Int} {k f : Nat} {ls : List (List UInt8)} {cur : List UInt8} {turn : Bool}
end
end Go.Proofs.YtaojfiegnebbdaaGreatDoor
-- Read16
namespace Go.Proofs.YtaojfiegnebbdaaGreatDoor
open Go.RowKit
end Go.Proofs.YtaojfiegnebbdaaGreatDoor
-- Read22
namespace Go.Proofs.YtaojfiegnebbdaaGreatDoor
open Go.RowKit
structure GotS where
 hd : Hd
 used : Int
 fin : Bool
 e : Int
 begun : Bool
def GotS.row (g : GotS) (f : Value) : Array Value := #[.string g.hd.m, .string g.hd.t, .int .i64 g.hd.k, .int .i64 g.hd.n, .string g.hd.r, f, .int .i64 g.used, .bool g.fin, .int .i64 g.e, .bool g.begun]
def gotZ (q : Bool × Nat × Int) (z : Option ((Hd × Int) × Nat) × List ByteArray) : GotS :=
 match z with
 | (some (h, used), _) => ⟨h.1, used, true, h.2, true⟩
 | (none, got) => ⟨hd0, q.2.1, false, q.2.2, q.1 || !got.isEmpty⟩
def gotP (kind fields fold most : Int) (l : List UInt8) : GotS := gotZ (rdL most l 0 [] false).2 (scanP kind fields fold (rdL most l 0 [] false).1 0 [])
end Go.Proofs.YtaojfiegnebbdaaGreatDoor
-- HdD
/- Texts packed for one claim, 37 of 52: BdQ Gath BodyLives. -/
import Derived.Test.YtaojfiegnebbdaaGreatDoorMbkQ27
import Derived.Test.YtaojfiegnebbdaaGreatDoorMbkQ31
import Derived.Test.YtaojfiegnebbdaaGreatDoorMbkQ5
set_option maxRecDepth 100000
set_option maxHeartbeats 16000000
set_option linter.unusedSimpArgs false
set_option linter.unusedVariables false
-- BdQ
namespace Go.Proofs.YtaojfiegnebbdaaGreatDoor
open Go.RowKit
theorem bclose_any {w : World} {D n0 : Nat} {m : Lm} {s : BdS} {V : BdV} (h : BdAt w D n0 m s V) (hl : s.out.length ≤ 1000000) :
 Calls Tryz.prog 31 #[.pointer (some ⟨D, 0, none⟩)] w fun e w' => ∃ vo V', e = .returned vo ∧ BdAt w' D n0 m (bTold (bClose s)) V' ∧ OwnPc w' n0 vo (bClose s).out ∧ BdGo w w' D V V' ∧ V'.vo = .slice none 0 0 ∧ (s.opens = false → vo = V.vo) := by
 have y11 : w.cell? ⟨D, 11, none⟩ = some (.bool s.till) := h.k.cell 11
 have H := lH h
 have HL := lH hl
 have HOP := lH (bopen_any h)
 cases ho : s.opens with
 | false =>
   have hc : bClose s = s := by unfold bClose; rw [if_neg (by rw [ho]; decide)]
   rw [hc]
   rw [ho] at HOP
   clear h hl hc ho
   go_enter Tryz.func31, Tryz.ntmps31
   go_wp2_with (first | (go_at_call 56; refine HOP.out.mono ?_; rintro e1 w1 ⟨rfl, rfl⟩) | (go_at_call 57; refine (btold_any H.out).mono ?_; rintro e2 w2 ⟨rfl, h2, o2, g2⟩; have H2 := lH h2; have O2 := lH o2; have G2 := lH g2; clear h2 o2 g2))
   go_ret
   exact ⟨_, _, rfl, H2.out, O2.out, G2.out, rfl, fun _ => rfl⟩
 | true =>
   rw [ho] at HOP
   cases ht : s.till with
   | true =>
     have hc : bClose s = s.ends := by unfold bClose; rw [if_pos ho, if_pos ht]
     rw [hc]
     rw [ht] at y11
     clear h hl hc ho ht
     go_enter Tryz.func31, Tryz.ntmps31
     go_wp2_with (first | (go_at_call 56; refine HOP.out.mono ?_; rintro e1 w1 ⟨rfl, rfl⟩) | (go_at_call 61; refine (bends_any H.out HL.out).mono ?_; rintro e3 w3 ⟨rfl, vo3, h3, g3⟩; have H3 := lH h3; have G3 := lH g3; clear h3 g3) | (go_at_call 57; refine (btold_any H3.out).mono ?_; rintro e2 w2 ⟨rfl, h2, o2, g2⟩; have H2 := lH h2; have O2 := lH o2; have G2 := lH g2; clear h2 o2 g2))
     go_ret
     exact ⟨_, _, rfl, H2.out, O2.out, G3.out.trans G2.out, rfl, fun e => (by cases e)⟩
   | false =>
     have hc : bClose s = s.wrong 19 := by unfold bClose; rw [if_pos ho, if_neg (by rw [ht]; decide)]
     rw [hc]
     rw [ht] at y11
     clear h hl hc ho ht
     go_enter Tryz.func31, Tryz.ntmps31
     go_wp2_with (first | (go_at_call 56; refine HOP.out.mono ?_; rintro e1 w1 ⟨rfl, rfl⟩) | (go_at_call 62; refine (bwrong_any H.out HL.out 19 (by decide)).mono ?_; rintro e3 w3 ⟨rfl, vo3, h3, g3⟩; have H3 := lH h3; have G3 := lH g3; clear h3 g3) | (go_at_call 57; refine (btold_any H3.out).mono ?_; rintro e2 w2 ⟨rfl, h2, o2, g2⟩; have H2 := lH h2; have O2 := lH o2; have G2 := lH g2; clear h2 o2 g2))
     go_ret
     exact ⟨_, _, rfl, H2.out, O2.out, G3.out.trans G2.out, rfl, fun e => (by cases e)⟩
theorem btrailers_any {w : World} {D n0 : Nat} {m : Lm} {s : BdS} {V : BdV} (h : BdAt w D n0 m s V) (ht : s.tr.length ≤ 1000000) :
 Calls Tryz.prog 60 #[.pointer (some ⟨D, 0, none⟩)] w fun e w' => ∃ v, e = .returned v ∧ OwnF w' w.heap.size v (if s.over = true then s.tr else []) ∧ Below w.heap.size w w' := by
 have HD := lH (bdone_any h.k)
 cases ho : s.over with
 | false =>
   rw [ho] at HD
   rw [if_neg (by decide)]
   clear h ho
   go_enter Tryz.func60, Tryz.ntmps60
   go_wp2_with (go_at_call 59; refine HD.out.mono ?_; rintro e1 w1 ⟨rfl, rfl⟩)
   go_ret
   exact ⟨_, rfl, OwnF.start _ _, Below.refl _ _⟩
 | true =>
   rw [ho] at HD
   rw [if_pos rfl]
   obtain ⟨pt, nt, ct, hvt⟩ := OwnF.shape (show OwnF w n0 V.vt s.tr from h.r.t)
   have y10 : w.cell? ⟨D, 10, none⟩ = some (.slice pt nt ct) := (h.k.cell 10).trans (congrArg some hvt)
   have hf : Flds w (.slice pt nt ct) s.tr := by rw [← hvt]; exact OwnF.flds (show OwnF w n0 V.vt s.tr from h.r.t)
   have HC := lH (clone_any (.slice pt nt ct) s.tr w hf ht)
   clear h ho hf hvt ht
   go_enter Tryz.func60, Tryz.ntmps60
   go_wp2_with (first | (go_at_call 59; refine HD.out.mono ?_; rintro e1 w1 ⟨rfl, rfl⟩) | (go_at_call 36; refine HC.out.mono ?_; rintro e2 w2 ⟨p2, c2, rfl, o2, b2⟩; have O2 := lH o2; have B2 := lH b2; clear o2 b2))
   go_ret
   exact ⟨_, rfl, O2.out, B2.out⟩
end Go.Proofs.YtaojfiegnebbdaaGreatDoor
-- Gath
namespace Go.Proofs.YtaojfiegnebbdaaGreatDoor
open Go.RowKit
def Pcs (w : World) (v : Value) (l : List Pc) : Prop :=
 ∃ p c, v = .slice p l.length c ∧ ∀ i (h : i < l.length), ∃ b off, p = some ⟨b, off, none⟩ ∧ w.cell? ⟨b, off + 3 * i, none⟩ = some (.int .i64 l[i].k) ∧ w.cell? ⟨b, off + 3 * i + 1, none⟩ = some (.int .i64 l[i].n) ∧ w.cell? ⟨b, off + 3 * i + 2, none⟩ = some (.string l[i].t)
theorem pcFlat_at (l : List Pc) : ∀ (i : Nat) (h : i < l.length), (pcFlat l)[3 * i]? = some (.int .i64 l[i].k) ∧ (pcFlat l)[3 * i + 1]? = some (.int .i64 l[i].n) ∧ (pcFlat l)[3 * i + 2]? = some (.string l[i].t) := by
 induction l with
 | nil => intro i h; exact absurd h (Nat.not_lt_zero _)
 | cons a l ih =>
   intro i h
   have e : pcFlat (a :: l) = .int .i64 a.k :: .int .i64 a.n :: .string a.t :: pcFlat l := rfl
   rw [e]
   cases i with
   | zero => exact ⟨rfl, rfl, rfl⟩
   | succ i =>
     have := ih i (by simpa using h)
     rw [show 3 * (i + 1) = 3 * i + 3 by omega]
     simpa using this
theorem Pcs.of_own {w : World} {B : Nat} {v : Value} {l : List Pc} (h : OwnPc w B v l) : Pcs w v l := by
 obtain ⟨_, h⟩ := h
 rcases h with ⟨rfl, h0⟩ | ⟨g, cap, cur, rfl, _, hg, h1, h2, h3, h4⟩
 ·have : l = [] := List.eq_nil_of_length_eq_zero h0
  subst this
  exact ⟨_, _, rfl, fun i hi => absurd hi (Nat.not_lt_zero _)⟩
 ·refine ⟨_, cap, rfl, fun i hi => ⟨g, 0, rfl, ?_⟩⟩
  obtain ⟨a, b, c⟩ := pcFlat_at l i hi
  rw [← h4] at a b c
  rw [List.getElem?_take, if_pos (by omega)] at a b c
  simp only [World.cell?, hg, Nat.zero_add]
  simp only [Array.getElem?_toList] at a b c
  exact ⟨a, b, c⟩
theorem Pcs.below {w w' : World} {v : Value} {l : List Pc} (h : Pcs w v l) (hb : Below w.heap.size w w') : Pcs w' v l := by
 obtain ⟨p, c, hv, hc⟩ := h
 refine ⟨p, c, hv, fun i hi => ?_⟩
 obtain ⟨b, off, hp, h1, h2, h3⟩ := hc i hi
 have hlt := World.block_lt_of_cell? w _ h1
 exact ⟨b, off, hp, ((bcell hb) b _ hlt).trans h1, ((bcell hb) b _ hlt).trans h2, ((bcell hb) b _ hlt).trans h3⟩
def OwnI (w : World) (B : Nat) (v : Value) (l : List Int) : Prop := w.ownsRow B 3 1 v l.length (l.map (Value.int .i64))
theorem OwnI.start (w : World) (B : Nat) : OwnI w B (.slice none 0 0) [] := World.ownsRow_nil _ _ _ _
theorem OwnI.shape {w : World} {B : Nat} {v : Value} {l : List Int} (h : OwnI w B v l) : ∃ p c, v = .slice p l.length c := by
 obtain ⟨_, h⟩ := h
 rcases h with ⟨rfl, h0⟩ | ⟨g, cap, cur, rfl, _⟩
 ·exact ⟨_, _, by rw [h0]⟩
 ·exact ⟨_, _, rfl⟩
theorem OwnI.call {w w1 : World} {B : Nat} {v : Value} {l : List Int} (h : OwnI w B v l) (hb : Below w.heap.size w w1) : OwnI w1 B v l := own_touch h (P := fun _ => False) (Touch.of_below hb) (fun _ _ => id)
theorem OwnI.nums {w : World} {B : Nat} {v : Value} {l : List Int} (h : OwnI w B v l) : Nums w v l := Nums.of_own h
theorem info_intc : (Tryz.prog.info? 3).map (fun i => (i.zero, i.size, i.bytes)) = some (some (.int .i64 0), 1, 8) := by kernel_rfl
def totT (l : List Pc) : Nat := (l.map fun p => p.t.size).sum
theorem totT_drop (l : List Pc) (k : Nat) (x : Pc) (h : k < l.length) (hx : l[k] = x) : totT (l.drop k) = x.t.size + totT (l.drop (k + 1)) := by
 rw [List.drop_eq_getElem_cons h, hx]
 rfl
end Go.Proofs.YtaojfiegnebbdaaGreatDoor
-- BodyLives
namespace Go.Proofs.YtaojfiegnebbdaaGreatDoor
open Go.RowKit
theorem bal2 (w : World) (a b : Obj) : Below w.heap.size w ((w.alloc a).alloc b) := ((Below.refl _ _).alloc (nR _) _).alloc (by simp) _
end Go.Proofs.YtaojfiegnebbdaaGreatDoor
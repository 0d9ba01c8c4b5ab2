/- Texts packed for one claim, 32 of 52: BldW. -/
import Derived.Test.YtaojfiegnebbdaaGreatDoorMbkQ2
import Derived.RegionTactic
import Derived.Laws.Externs
import Derived.Lib.Builder
import Derived.Lib.UnsafeStr
import Derived.Lib.AppendStr
import Derived.Lib.Strings
import Derived.Lib.FrozenHead
set_option maxRecDepth 100000
set_option maxHeartbeats 16000000
set_option linter.unusedSimpArgs false
set_option linter.unusedVariables false
-- BldW
namespace Go.Proofs.YtaojfiegnebbdaaGreatDoor
open Go.RowKit
namespace Own
structure Bld (w : World) (B b : Nat) (p v : Value) (T : List UInt8) : Prop where
 addr : p = .pointer none ∨ p = .pointer (some ⟨b, 0, none⟩)
 blk : Blk w b #[p, v] 115
 own : w.ownsRowF B 5 1 v T.length (Lib.byteCells T)
 nil : T = [] → v = .slice none 0 0
theorem infoB : (Tryz.prog.info? 115).map (·.size) = some 2 := by kernel_rfl
theorem info8 : (Tryz.prog.info? 5).map (fun i => (i.zero, i.size, i.bytes)) = some (some (.int .u8 0), 1, 1) := by kernel_rfl
theorem liesB : liesAt Tryz.prog Tryz.prog.depth 115 (2 / Tryz.prog.cellsOf 115) 0 115 1 = true := by kernel_rfl
theorem cells8 : Tryz.prog.cellsOf 5 = 1 := by kernel_rfl
theorem shapeO {w : World} {g : Nat} {cs : Array Value} {t : TypeId} (h : Blk w g cs t) : w.shape? g = some (t, cs.size) := by
 unfold Blk at h
 simp [World.shape?, h]
theorem grownO {P : Nat → Prop} {w w1 w2 : World} {row : Option Nat} (h : Touch P w w1) (hg : w1.grownBy w2 row) (hr : ∀ k, row = some k → P k) : Touch P w w2 :=
 h.trans ⟨hg.os, hg.tape, hg.output, hg.size, fun k hk hp => hg.block k hk fun e => hp (hr k e.symm)⟩
theorem ownsRowF_touch {P : Nat → Prop} {w w1 : World} {B : Nat} {e : TypeId} {n : Nat} {v : Value} {xs : List Value} (h : w.ownsRowF B e 1 v n xs) (t : Touch P w w1) (hP : ∀ k, v.ownBlock = some k → ¬ P k) : w1.ownsRowF B e 1 v n xs := by
 obtain ⟨h1, h2⟩ := h
 refine ⟨h1, ?_⟩
 rcases h2 with h2 | ⟨g, cap, cur, fz, rfl, hb, hg, r⟩
 ·exact .inl h2
 ·refine .inr ⟨g, cap, cur, fz, rfl, hb, (t.block g ?_ (hP g rfl)).trans hg, r⟩
  rcases Nat.lt_or_ge g w.heap.size with h' | h'
  ·exact h'
  ·simp [Array.getElem?_eq_none h'] at hg
def Row (w : World) (B i : Nat) : Prop := B ≤ i ∧ ∃ cs fz, w.heap[i]? = some (.cells cs 5 fz)
theorem Row.of_own {w : World} {B n k : Nat} {v : Value} {xs : List Value} (h : w.ownsRowF B 5 1 v n xs) (hk : v.ownBlock = some k) : Row w B k := by
 refine ⟨(h.lt k hk).1, ?_⟩
 rcases h.2 with ⟨rfl, _⟩ | ⟨g, cap, cur, fz, rfl, _, hg, _⟩
 ·cases hk
 ·injection hk with hk
  subst hk
  exact ⟨_, _, hg⟩
theorem transO {P Q : Nat → Prop} {w w1 w2 : World} (h : Touch P w w1) (k : Touch Q w1 w2) (hq : ∀ i, i < w.heap.size → Q i → P i) : Touch P w w2 :=
 ⟨k.os.trans h.os, k.tape.trans h.tape, k.output.trans h.output, nT h.size k.size, fun i hi hp => (k.block i (Nat.lt_of_lt_of_le hi h.size) (fun hq' => hp (hq i hi hq'))).trans (h.block i hi hp)⟩
theorem Row.back {P : Nat → Prop} {w w1 : World} {B i : Nat} (h : Row w1 B i) (t : Touch P w w1) (hi : i < w.heap.size) (hp : ¬ P i) : Row w B i := by
 obtain ⟨h1, cs, fz, h2⟩ := h
 exact ⟨h1, cs, fz, (t.block i hi hp).symm.trans h2⟩
theorem Bld.touch {P : Nat → Prop} {w w1 : World} {B b : Nat} {p v : Value} {T : List UInt8} (h : Bld w B b p v T) (t : Touch P w w1) (hb : ¬ P b) (hP : ∀ k, B ≤ k → ¬ P k) : Bld w1 B b p v T :=
 ⟨h.addr, h.blk.touch t hb, ownsRowF_touch h.own t (fun k hk => hP k (h.own.lt k hk).1), h.nil⟩
theorem copyCheck_any {w : World} {B b : Nat} {p v : Value} {T : List UInt8} (h : Bld w B b p v T) (hB : b < B) :
 Calls Tryz.prog 112 #[.pointer (some ⟨b, 0, none⟩)] w fun e w' => e = .returned (.tuple #[]) ∧ Bld w' B b (.pointer (some ⟨b, 0, none⟩)) v T ∧ Touch (fun i => i = b) w w' := by
 obtain ⟨j, hj, hjs⟩ := Option.map_eq_some_iff.1 infoB
 have h0 : w.cell? ⟨b, 0, none⟩ = some p := h.blk.cell 0
 have hsh : w.shape? b = some (115, 2) := shapeO h.blk
 have hfz : w.frozen? ⟨b, 0, none⟩ = false := h.blk.froz 0
 have H := lH h
 have haddr := h.addr
 clear h
 rcases haddr with rfl | rfl
 ·go_enter Tryz.func112, Tryz.ntmps112
  go_wp2
  rw [Lib.run_to_unsafe w ⟨b, 0, none⟩ Tryz.underlying112 Tryz.underlying164 hj (by rw [hjs]; decide) hsh (by show 0 < 2; omega)]
  simp only [Result.andThen]
  rw [Oper.upon_value]
  go_wp2
  rw [run_callFunc_extern Tryz.func142 (by kernel_rfl) (by kernel_rfl) (by kernel_rfl) (e := Extern.AbiNoEscape.same) (by kernel_rfl)]
  rw [Lib.run_noEscape]
  simp only [Result.andThen]
  rw [Oper.upon_value]
  go_wp2
  rw [Lib.run_from_unsafe w ⟨b, 0, none⟩ Tryz.underlying164 Tryz.underlying112 hj hsh liesB]
  simp only [Result.andThen]
  rw [Oper.upon_value]
  go_wp2
  go_end0
  have t : Touch (fun i => i = b) w (w.setCell ⟨b, 0, none⟩ (.pointer (some ⟨b, 0, none⟩))) := Touch.setCell (P := fun i => i = b) (Touch.refl _ _) rfl _
  exact ⟨rfl, ⟨.inr rfl, H.out.blk.set 0 _, ownsRowF_touch H.out.own t (fun k hk e => by have := (H.out.own.lt k hk).1; omega), H.out.nil⟩, t⟩
 ·go_enter Tryz.func112, Tryz.ntmps112
  go_wp2
  rw [Lib.run_neq_ptr_same w _ Tryz.underlying112 hj]
  go_wp2
  go_end0
  exact ⟨rfl, H.out, Touch.refl _ _⟩
theorem writeString_any {w : World} {B b : Nat} {p v : Value} {T : List UInt8} (h : Bld w B b p v T) (hB : b < B) (hBw : B ≤ w.heap.size) (s : ByteArray) (hlen : T.length + s.size ≤ 140737488355328) :
 Calls Tryz.prog 73 #[.pointer (some ⟨b, 0, none⟩), .string s] w fun e w' => e = .returned (.tuple #[.int .i64 s.size, .nilIface]) ∧ (∃ p' v', Bld w' B b p' v' (T ++ s.data.toList)) ∧ Touch (fun i => i = b ∨ Row w B i) w w' := by
 obtain ⟨i0, hi, hz0, hz1, hz2⟩ := info_parts info8
 have H := lH h
 clear h
 go_enter Tryz.func73, Tryz.ntmps73
 go_wp2_with fail
 refine (copyCheck_any H.out hB).mono ?_
 rintro e w1 ⟨rfl, h1, t1⟩
 have c1 : w1.cell? ⟨b, 1, none⟩ = some v := h1.blk.cell 1
 have hown := h1.own
 have H1 := lH h1
 have z1 := t1.size
 have T1 := lH t1
 clear h1 t1
 go_wp2_with (at_builtin; refine Lib.wpList_append_own_stringF _ rfl _ _ 113 9 rfl B 5 i0 Tryz.underlying113 Tryz.underlying9 hi hz0 hz1 hz2 _ _ _ rfl hown s rfl ?c3 ?c4 ?c5 ?_)
 case c3 => unfold maxLen; omega
 case c4 => omega
 case c5 => omega
 intro v' w2 hown' hgrow hnil
 have hrow : ∀ k, v.ownBlock = some k → Row w1 B k := fun k hk => Row.of_own H1.out.own hk
 have t2 : Touch (fun i => Row w1 B i) w1 w2 := grownO (P := fun i => Row w1 B i) (Touch.refl _ _) hgrow hrow
 have hb2 := H1.out.blk.touch t2 (fun h => by have := h.1; omega)
 obtain ⟨ao, n', cap', rfl⟩ : ∃ ao n' cap', v' = .slice ao n' cap' := by
  rcases hown'.2 with ⟨hv, _⟩ | ⟨g, cap, cur, fz, hv, _⟩
  ·exact ⟨_, _, _, hv⟩
  ·exact ⟨_, _, _, hv⟩
 have d1 : w2.cell? ⟨b, 1, none⟩ = some v := hb2.cell 1
 have f1 : w2.frozen? ⟨b, 1, none⟩ = false := hb2.froz 1
 have HB2 := lH hb2
 have HO := lH hown'
 have T2 := lH t2
 have HN := lH hnil
 clear hb2 hown' t2 hgrow hnil hrow hown
 go_wp2
 go_ret2
 have hl : (T ++ s.data.toList).length = T.length + s.size := by rw [List.length_append, Lib.size_eq]
 have t3 : Touch (fun i => i = b ∨ Row w B i) w2 (w2.setCell ⟨b, 1, none⟩ (.slice ao n' cap')) := Touch.setCell (P := fun i => i = b ∨ Row w B i) (Touch.refl _ _) (.inl rfl) _
 refine ⟨rfl, ⟨_, .slice ao n' cap', .inr rfl, HB2.out.set 1 _, ?_, ?_⟩, (transO (T1.out.mono (Q := fun i => i = b ∨ Row w B i) fun _ _ h => .inl h) T2.out (fun i hi h => .inr (h.back T1.out hi (fun e => by have := h.1; omega)))).trans t3⟩
 ·have h3 : w2.ownsRowF B 5 1 (.slice ao n' cap') (T ++ s.data.toList).length (Lib.byteCells (T ++ s.data.toList)) := by
   rw [hl, Lib.byteCells_append]
   exact HO.out
  exact ownsRowF_touch h3 (Touch.setCell (P := fun i => i = b) (Touch.refl _ _) rfl _) (fun k hk e => by have := (h3.lt k hk).1; omega)
 ·intro he
  rw [List.append_eq_nil_iff] at he
  refine HN.out.2 ⟨H1.out.nil he.1, ?_⟩
  cases s with
  | mk a =>
    have ha : a = #[] := Array.toList_inj.1 he.2
    rw [ha]
    rfl
theorem string_any {w : World} {B b : Nat} {p v : Value} {T : List UInt8} (h : Bld w B b p v T) (hB : b < B) (hBw : B ≤ w.heap.size) (x : ByteArray) (hx : x.data.toList = T) :
 Calls Tryz.prog 76 #[.pointer (some ⟨b, 0, none⟩)] w fun e w' => e = .returned (.string x) ∧ Bld w' B b p v T ∧ Touch (fun i => Row w B i) w w' := by
 obtain rfl : x = ⟨T.toArray⟩ := by
  rw [← hx]
 have H := lH h
 clear hx
 cases hT : T with
 | nil =>
   subst hT
   obtain rfl := h.nil rfl
   have hUS := fun (W : World) (q : Option Addr) => Lib.run_unsafeString_none (P := Tryz.prog) (w := W) 143 3 9 q
   have c1 : w.drew.cell? ⟨b, 1, none⟩ = some (.slice none 0 0) := h.blk.cell 1
   have hSD : (Builtin.unsafeSliceData_ #[113] 143 #[.slice none 0 0]).run Tryz.prog w.drew = .ok (.pointer none) w.drew := rfl
   clear h
   go_enter Tryz.func76, Tryz.ntmps76
   go_wp2
   go_region
   all_goals (go_wp2; go_ret; exact ⟨rfl, H.out.touch (P := fun _ => False) (Touch.refl _ _).drew id (fun _ _ => id), (Touch.refl _ _).drew⟩)
 | cons x l =>
   have h0 : T ≠ [] := by rw [hT]; simp
   rw [← hT]
   clear hT
   have hl0 : T.length ≠ 0 := by simpa using h0
   have hown := h.own
   obtain ⟨g, cap, cur, fz, hv, hbg, hg, hfz, hnc, hcm, hcs, htake⟩ : ∃ g cap cur fz, v = .slice (some ⟨g, 0, none⟩) T.length cap ∧ B ≤ g ∧ w.heap[g]? = some (.cells cur 5 fz) ∧ fz.2 ≤ T.length * 1 ∧ T.length ≤ cap ∧ cap ≤ maxLen ∧ cur.size = cap * 1 ∧ cur.toList.take (T.length * 1) = Lib.byteCells T := by
    rcases hown.2 with ⟨_, hz⟩ | ⟨g, cap, cur, fz, hv, r⟩
    ·exact absurd hz hl0
    ·exact ⟨g, cap, cur, fz, hv, r⟩
   subst hv
   have c1 : w.drew.cell? ⟨b, 1, none⟩ = some (.slice (some ⟨g, 0, none⟩) T.length cap) := h.blk.cell 1
   have hSD : (Builtin.unsafeSliceData_ #[113] 143 #[.slice (some ⟨g, 0, none⟩) T.length cap]).run Tryz.prog w.drew = .ok (.pointer (some ⟨g, 0, none⟩)) w.drew :=
    Lib.run_unsafeSliceData_row _ _ _ _ _ _ (by omega)
   have hUS : (Builtin.unsafeString_ #[143, 3] 9 #[.pointer (some ⟨g, 0, none⟩), .int .i64 T.length]).run Tryz.prog w.drew = .ok (.string ⟨T.toArray⟩) (w.drew.freeze ⟨g, 0, none⟩ T.length) := by
    refine Lib.run_unsafeString_row w.drew 143 3 9 5 Tryz.underlying143 cells8 g cur.size (by have hg' : w.drew.heap[g]? = some (.cells cur 5 fz) := hg; simp [World.shape?, hg']) T h0 (by omega) (by unfold maxLen at hcm; omega) ?_
    intro j x hx
    exact hown.cells (g := g) rfl j (.int .u8 x.toNat) (by simp [Lib.byteCells, hx])
   have hkeep : Bld (w.drew.freeze ⟨g, 0, none⟩ T.length) B b p (.slice (some ⟨g, 0, none⟩) T.length cap) T := by
    have hgb : g ≠ b := by omega
    unfold World.freeze
    split
    ·exact ⟨h.addr, h.blk, hown, h.nil⟩
    ·rename_i hn0
     refine ⟨h.addr, ?_, ⟨hown.1, .inr ⟨g, cap, cur, ?_⟩⟩, h.nil⟩
     ·have hb := h.blk
      unfold Blk at hb ⊢
      simp only [Array.getElem?_modify]
      rw [if_neg hgb]
      exact hb
     ·obtain ⟨lo, hi⟩ := fz
      refine ⟨(if lo == hi then (0, 0 + T.length) else (min lo 0, max hi (0 + T.length))), rfl, hbg, ?_, ?_, hnc, hcm, hcs, htake⟩
      ·have hg' : w.drew.heap[g]? = some (.cells cur 5 (lo, hi)) := hg
       simp [Array.getElem?_modify, hg']
      ·simp only at hfz
       split <;> simp <;> omega
   have hto : Touch (fun i => Row w B i) w (w.drew.freeze ⟨g, 0, none⟩ T.length) := by
    unfold World.freeze
    split
    ·exact (Touch.refl _ _).drew
    ·refine ⟨rfl, rfl, rfl, by simp, fun k hk hp => ?_⟩
     simp only [Array.getElem?_modify]
     rw [if_neg (by rintro rfl; exact hp ⟨hbg, _, _, hg⟩)]
     rfl
   have HK := lH hkeep
   have HT := lH hto
   clear hkeep hto htake hcs hcm hnc hfz hg hown h h0
   go_enter Tryz.func76, Tryz.ntmps76
   go_wp2
   go_region
   all_goals (go_wp2; go_ret; exact ⟨rfl, HK.out, HT.out⟩)
end Own
end Go.Proofs.YtaojfiegnebbdaaGreatDoor
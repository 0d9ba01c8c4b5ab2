/- Texts packed for one claim, 2 of 48: Base Same Held. -/
import Derived.Test.YthjbodpeckebiaaGreatDoorProg
import Derived.WalkKit
import Derived.WalkSpells
import Derived.WalkLawsBesides
import Derived.Lib.Hide
import Derived.Deep.QuietTactic
import Derived.BigQuiet
import Derived.StillTailTactics
import Derived.Deep.RegionHeld3
import Derived.Deep.LoopGhost
import Derived.Deep.DeepFit
import Derived.Handy
import Derived.PlainAid
import Derived.Outline
set_option maxRecDepth 100000
set_option maxHeartbeats 16000000
set_option linter.unusedSimpArgs false
set_option linter.unusedVariables false
-- Base
namespace Go.Proofs.YthjbodpeckebiaaGreatDoor
open Go.RowKit
theorem dY {W w1:World} (hb:Below W.heap.size W w1):(∀b o,b<W.heap.size->w1.cell? ⟨b,o,none⟩=W.cell? ⟨b,o,none⟩):=
 fun b o h=>hb.cell (p:=⟨b,o,none⟩) h
theorem hO (b off i:Nat):(⟨b,off,none⟩:Addr).add i=⟨b,off+i,none⟩:=by
 unfold Addr.add;split<;>simp_all
def ac (w:World) (g:Nat) (cs:Array Value) (t:TypeId):Prop:=w.heap[g]? = some (.cells cs t (0,0))
section
variable {w w':World} {g:Nat} {t:TypeId} {cs:Array Value}
theorem ac.lt (h:ac w g cs t):g<w.heap.size:=by
 unfold ac at h;rcases Nat.lt_or_ge g w.heap.size with h1|h1
 ·exact h1
 ·rw[Array.getElem?_eq_none h1] at h;cases h
theorem ac.cell (h:ac w g cs t) (i:Nat):w.cell? ⟨g,i,none⟩=cs[i]?:=by
 unfold ac at h;simp[World.cell?,h]
theorem ac.froz (h:ac w g cs t) (i:Nat):w.frozen? ⟨g,i,none⟩=false:=by
 unfold ac at h;simp[World.frozen?,h]
theorem ac.new (w:World) (cs:Array Value) (t:TypeId):ac (w.alloc (.cells cs t)) w.heap.size cs t:=heap_alloc_new w _
theorem ac.new' {n:Nat} (h:n=w.heap.size):ac (w.alloc (.cells cs t)) n cs t:=h▸heap_alloc_new w _
theorem ac.drew (h:ac w g cs t):ac w.drew g cs t:=h
theorem ac.alloc (h:ac w g cs t) (o:Obj):ac (w.alloc o) g cs t:=(Below.heap_alloc w o g h.lt).trans h
theorem ac.set (h:ac w g cs t) (i:Nat) (u:Value):ac (w.setCell ⟨g,i,none⟩ u) g (cs.setIfInBounds i u) t:=by
 unfold ac at h ⊢;simp[World.setCell,Array.getElem?_modify,h]
theorem ac.far (h:ac w g cs t) {p:Addr} (hp:g≠p.block) (u:Value):ac (w.setCell p u) g cs t:=(Below.heap_setCell w p u g hp).trans h
theorem ac.below {B:Nat} (h:ac w g cs t) (hb:Below B w w') (hg:g<B):ac w' g cs t:=(hb.block g hg).trans h
theorem ac.call (h:ac w g cs t) (hb:Below w.heap.size w w'):ac w' g cs t:=h.below hb h.lt
end
theorem _root_.Go.tT.{u}:type_of% @beq_eq_false_iff_ne.{u}:=@beq_eq_false_iff_ne.{u}
theorem _root_.Go.tU:type_of% @Below.refl:=@Below.refl
theorem _root_.Go.tV:type_of% @wpAnyH_take:=@wpAnyH_take
theorem _root_.Go.tW.{u}:type_of% @List.getElem?_eq_getElem.{u}:=@List.getElem?_eq_getElem.{u}
theorem _root_.Go.tX:type_of% @Nat.zero_le:=@Nat.zero_le
theorem _root_.Go.tY:type_of% @decide_eq_true_eq:=@decide_eq_true_eq
theorem _root_.Go.tZ:type_of% @decide_eq_false_iff_not:=@decide_eq_false_iff_not
theorem _root_.Go.t4.{u}:type_of% @List.length_cons.{u}:=@List.length_cons.{u}
theorem _root_.Go.t7.{u}:type_of% @List.length_drop.{u}:=@List.length_drop.{u}
theorem _root_.Go.t8:type_of% @World.block_lt_of_cell?:=@World.block_lt_of_cell?
theorem _root_.Go.t9.{u}:type_of% @List.eq_nil_of_length_eq_zero.{u}:=@List.eq_nil_of_length_eq_zero.{u}
theorem _root_.Go.ua.{u}:type_of% @Array.getElem?_eq_some_iff.{u}:=@Array.getElem?_eq_some_iff.{u}
theorem _root_.Go.ub:type_of% @bodyPost_ret:=@bodyPost_ret
theorem _root_.Go.uc:type_of% @Int.toNat_natCast:=@Int.toNat_natCast
theorem _root_.Go.ue.{u}:type_of% @List.length_append.{u}:=@List.length_append.{u}
theorem _root_.Go.uf:type_of% @AllReadyH.cons:=@AllReadyH.cons
theorem _root_.Go.ug.{u}:type_of% @List.drop_of_length_le.{u}:=@List.drop_of_length_le.{u}
theorem _root_.Go.uh:type_of% @run_loadVar_row:=@run_loadVar_row
theorem _root_.Go.uj.{u}:type_of% @List.take_succ_eq_append_getElem.{u}:=@List.take_succ_eq_append_getElem.{u}
theorem _root_.Go.um:type_of% @AllReadyH.nil:=@AllReadyH.nil
theorem _root_.Go.un.{u}:type_of% @List.drop_eq_getElem_cons.{u}:=@List.drop_eq_getElem_cons.{u}
theorem _root_.Go.uo.{u}:type_of% @List.drop_drop.{u}:=@List.drop_drop.{u}
theorem _root_.Go.uq:type_of% @wpAnyH_ready:=@wpAnyH_ready
theorem _root_.Go.us.{u}:type_of% @List.drop_zero.{u}:=@List.drop_zero.{u}
theorem _root_.Go.ut:type_of% @UInt8.toNat_inj:=@UInt8.toNat_inj
theorem _root_.Go.uu.{u}:type_of% @List.take_of_length_le.{u}:=@List.take_of_length_le.{u}
theorem _root_.Go.uv:type_of% @Nat.le_add_right:=@Nat.le_add_right
theorem _root_.Go.uw.{u,v}:type_of% @List.map_append.{u,v}:=@List.map_append.{u,v}
theorem _root_.Go.ux:type_of% @Bool.and_eq_true:=@Bool.and_eq_true
theorem _root_.Go.uy.{u}:type_of% @List.take_succ_cons.{u}:=@List.take_succ_cons.{u}
theorem _root_.Go.uz:type_of% @World.ownsRow_nil:=@World.ownsRow_nil
theorem _root_.Go.uA.{u}:type_of% @List.drop_succ_cons.{u}:=@List.drop_succ_cons.{u}
theorem _root_.Go.uB.{u}:type_of% @beq_iff_eq.{u}:=@beq_iff_eq.{u}
theorem _root_.Go.uC.{u,v}:type_of% @Prod.mk.inj.{u,v}:=@Prod.mk.inj.{u,v}
theorem _root_.Go.uD:type_of% @Nat.lt_of_lt_of_le:=@Nat.lt_of_lt_of_le
theorem _root_.Go.uE:type_of% @wpQuiet_nil:=@wpQuiet_nil
theorem _root_.Go.uF.{u,v}:type_of% @congrArg.{u,v}:=@congrArg.{u,v}
theorem _root_.Go.uG:type_of% @Nat.lt_or_ge:=@Nat.lt_or_ge
theorem _root_.Go.uH.{u}:type_of% @List.getElem?_eq_none.{u}:=@List.getElem?_eq_none.{u}
theorem _root_.Go.uI.{u}:type_of% @bne_iff_ne.{u}:=@bne_iff_ne.{u}
theorem _root_.Go.uJ:type_of% @Nat.zero_add:=@Nat.zero_add
theorem _root_.Go.uK:type_of% @run_slice_string_l:=@run_slice_string_l
theorem _root_.Go.uL:type_of% @Nat.not_lt_zero:=@Nat.not_lt_zero
theorem _root_.Go.uM:type_of% @Bool.or_eq_true:=@Bool.or_eq_true
theorem _root_.Go.uN:type_of% @Nat.le_succ:=@Nat.le_succ
theorem _root_.Go.uO.{u}:type_of% @List.getElem?_cons_succ.{u}:=@List.getElem?_cons_succ.{u}
theorem _root_.Go.uP:type_of% @Bool.false_eq_true:=@Bool.false_eq_true
theorem _root_.Go.uQ:type_of% @IntWalk.wrap64_in:=@IntWalk.wrap64_in
theorem _root_.Go.uR.{u}:type_of% @List.append_assoc.{u}:=@List.append_assoc.{u}
theorem _root_.Go.uS.{u}:type_of% @List.cons_append.{u}:=@List.cons_append.{u}
theorem _root_.Go.uT.{u}:type_of% @List.length_nil.{u}:=@List.length_nil.{u}
theorem _root_.Go.uU:type_of% @Bool.eq_iff_iff:=@Bool.eq_iff_iff
theorem _root_.Go.uV:type_of% @ByteArray.size_append:=@ByteArray.size_append
theorem _root_.Go.uW.{u}:type_of% @List.take_length.{u}:=@List.take_length.{u}
theorem _root_.Go.uX.{u}:type_of% @List.getElem?_drop.{u}:=@List.getElem?_drop.{u}
theorem _root_.Go.uY:type_of% @Nat.add_assoc:=@Nat.add_assoc
theorem _root_.Go.uZ:type_of% @ByteArray.size_extract:=@ByteArray.size_extract
theorem _root_.Go.u0.{u}:type_of% @List.takeWhile_cons.{u}:=@List.takeWhile_cons.{u}
theorem _root_.Go.u1:type_of% @ByteArray.toList_eq:=@ByteArray.toList_eq
theorem _root_.Go.u2.{u,v}:type_of% @List.getElem?_map.{u,v}:=@List.getElem?_map.{u,v}
theorem _root_.Go.vb.{u}:type_of% @List.getElem?_take_of_lt.{u}:=@List.getElem?_take_of_lt.{u}
theorem _root_.Go.vc.{u}:type_of% @List.take_append_drop.{u}:=@List.take_append_drop.{u}
theorem _root_.Go.ve.{u}:type_of% @Option.some.inj.{u}:=@Option.some.inj.{u}
theorem _root_.Go.vg.{u}:type_of% @List.getElem?_take.{u}:=@List.getElem?_take.{u}
theorem _root_.Go.vh:type_of% @Lib.run_next_end_at:=@Lib.run_next_end_at
theorem _root_.Go.vi.{u}:type_of% @List.mem_iff_getElem?.{u}:=@List.mem_iff_getElem?.{u}
theorem _root_.Go.vj.{u}:type_of% @List.mem_cons_self.{u}:=@List.mem_cons_self.{u}
theorem _root_.Go.vm.{u}:type_of% @List.nil_append.{u}:=@List.nil_append.{u}
theorem _root_.Go.vq:type_of% @Lib.run_next_any_at:=@Lib.run_next_any_at
theorem _root_.Go.vr:type_of% @Lib.below_iterAt:=@Lib.below_iterAt
theorem _root_.Go.lH {p:Prop} (h:p):Hid p:=Lib.hid h
theorem _root_.Go.lS {α:Type} {l:List α} {i:Nat} {a:α}:l.toArray.setIfInBounds i a=(l.set i a).toArray:=by rw[List.setIfInBounds_toArray]
theorem _root_.Go.lZ {α:Type} {a b:α} {l:List α}:(a :: l).set 0 b=b :: l:=rfl
theorem _root_.Go.lC {α:Type} {a b:α} {l:List α} {n:Nat}:(a :: l).set (n+1) b=a :: l.set n b:=rfl
theorem _root_.Go.dF {p:Prop} [Decidable p] (h:¬p):decide p=false:=decide_eq_false h
theorem _root_.Go.dT {p:Prop} [Decidable p] (h:p):decide p=true:=decide_eq_true h
theorem _root_.Go.nT {a b c:Nat} (h:a<=b) (k:b<=c):a<=c:=Nat.le_trans h k
theorem _root_.Go.nR (n:Nat):n<=n:=Nat.le_refl n
theorem bc2 {w:World} {g:Nat} {cs:Array Value} {t:TypeId} (h:ac w g cs t) (i0 i1:Nat):w.cell? ⟨g,i0,none⟩=cs[i0]?/\w.cell? ⟨g,i1,none⟩=cs[i1]?:=⟨h.cell i0,h.cell i1⟩
theorem bf2 {w:World} {g:Nat} {cs:Array Value} {t:TypeId} (h:ac w g cs t) (i0 i1:Nat):w.frozen? ⟨g,i0,none⟩=false/\w.frozen? ⟨g,i1,none⟩=false:=⟨h.froz i0,h.froz i1⟩
theorem qd {w:World} {g:Nat} {cs:Array Value} {t:TypeId} (h:ac w g cs t) (i0 i1 i2:Nat):w.cell? ⟨g,i0,none⟩=cs[i0]?/\w.cell? ⟨g,i1,none⟩=cs[i1]?/\w.cell? ⟨g,i2,none⟩=cs[i2]?:=⟨h.cell i0,h.cell i1,h.cell i2⟩
theorem qB {w:World} {g:Nat} {cs:Array Value} {t:TypeId} (h:ac w g cs t) (i0 i1 i2:Nat):w.frozen? ⟨g,i0,none⟩=false/\w.frozen? ⟨g,i1,none⟩=false/\w.frozen? ⟨g,i2,none⟩=false:=⟨h.froz i0,h.froz i1,h.froz i2⟩
theorem bc4 {w:World} {g:Nat} {cs:Array Value} {t:TypeId} (h:ac w g cs t) (i0 i1 i2 i3:Nat):w.cell? ⟨g,i0,none⟩=cs[i0]?/\w.cell? ⟨g,i1,none⟩=cs[i1]?/\w.cell? ⟨g,i2,none⟩=cs[i2]?/\w.cell? ⟨g,i3,none⟩=cs[i3]?:=⟨h.cell i0,h.cell i1,h.cell i2,h.cell i3⟩
theorem bf4 {w:World} {g:Nat} {cs:Array Value} {t:TypeId} (h:ac w g cs t) (i0 i1 i2 i3:Nat):w.frozen? ⟨g,i0,none⟩=false/\w.frozen? ⟨g,i1,none⟩=false/\w.frozen? ⟨g,i2,none⟩=false/\w.frozen? ⟨g,i3,none⟩=false:=⟨h.froz i0,h.froz i1,h.froz i2,h.froz i3⟩
theorem bc5 {w:World} {g:Nat} {cs:Array Value} {t:TypeId} (h:ac w g cs t) (i0 i1 i2 i3 i4:Nat):w.cell? ⟨g,i0,none⟩=cs[i0]?/\w.cell? ⟨g,i1,none⟩=cs[i1]?/\w.cell? ⟨g,i2,none⟩=cs[i2]?/\w.cell? ⟨g,i3,none⟩=cs[i3]?/\w.cell? ⟨g,i4,none⟩=cs[i4]?:=⟨h.cell i0,h.cell i1,h.cell i2,h.cell i3,h.cell i4⟩
theorem bf5 {w:World} {g:Nat} {cs:Array Value} {t:TypeId} (h:ac w g cs t) (i0 i1 i2 i3 i4:Nat):w.frozen? ⟨g,i0,none⟩=false/\w.frozen? ⟨g,i1,none⟩=false/\w.frozen? ⟨g,i2,none⟩=false/\w.frozen? ⟨g,i3,none⟩=false/\w.frozen? ⟨g,i4,none⟩=false:=⟨h.froz i0,h.froz i1,h.froz i2,h.froz i3,h.froz i4⟩
theorem bc6 {w:World} {g:Nat} {cs:Array Value} {t:TypeId} (h:ac w g cs t) (i0 i1 i2 i3 i4 i5:Nat):w.cell? ⟨g,i0,none⟩=cs[i0]?/\w.cell? ⟨g,i1,none⟩=cs[i1]?/\w.cell? ⟨g,i2,none⟩=cs[i2]?/\w.cell? ⟨g,i3,none⟩=cs[i3]?/\w.cell? ⟨g,i4,none⟩=cs[i4]?/\w.cell? ⟨g,i5,none⟩=cs[i5]?:=⟨h.cell i0,h.cell i1,h.cell i2,h.cell i3,h.cell i4,h.cell i5⟩
theorem bf6 {w:World} {g:Nat} {cs:Array Value} {t:TypeId} (h:ac w g cs t) (i0 i1 i2 i3 i4 i5:Nat):w.frozen? ⟨g,i0,none⟩=false/\w.frozen? ⟨g,i1,none⟩=false/\w.frozen? ⟨g,i2,none⟩=false/\w.frozen? ⟨g,i3,none⟩=false/\w.frozen? ⟨g,i4,none⟩=false/\w.frozen? ⟨g,i5,none⟩=false:=⟨h.froz i0,h.froz i1,h.froz i2,h.froz i3,h.froz i4,h.froz i5⟩
theorem bc7 {w:World} {g:Nat} {cs:Array Value} {t:TypeId} (h:ac w g cs t) (i0 i1 i2 i3 i4 i5 i6:Nat):w.cell? ⟨g,i0,none⟩=cs[i0]?/\w.cell? ⟨g,i1,none⟩=cs[i1]?/\w.cell? ⟨g,i2,none⟩=cs[i2]?/\w.cell? ⟨g,i3,none⟩=cs[i3]?/\w.cell? ⟨g,i4,none⟩=cs[i4]?/\w.cell? ⟨g,i5,none⟩=cs[i5]?/\w.cell? ⟨g,i6,none⟩=cs[i6]?:=⟨h.cell i0,h.cell i1,h.cell i2,h.cell i3,h.cell i4,h.cell i5,h.cell i6⟩
theorem bf7 {w:World} {g:Nat} {cs:Array Value} {t:TypeId} (h:ac w g cs t) (i0 i1 i2 i3 i4 i5 i6:Nat):w.frozen? ⟨g,i0,none⟩=false/\w.frozen? ⟨g,i1,none⟩=false/\w.frozen? ⟨g,i2,none⟩=false/\w.frozen? ⟨g,i3,none⟩=false/\w.frozen? ⟨g,i4,none⟩=false/\w.frozen? ⟨g,i5,none⟩=false/\w.frozen? ⟨g,i6,none⟩=false:=⟨h.froz i0,h.froz i1,h.froz i2,h.froz i3,h.froz i4,h.froz i5,h.froz i6⟩
theorem bc8 {w:World} {g:Nat} {cs:Array Value} {t:TypeId} (h:ac w g cs t) (i0 i1 i2 i3 i4 i5 i6 i7:Nat):w.cell? ⟨g,i0,none⟩=cs[i0]?/\w.cell? ⟨g,i1,none⟩=cs[i1]?/\w.cell? ⟨g,i2,none⟩=cs[i2]?/\w.cell? ⟨g,i3,none⟩=cs[i3]?/\w.cell? ⟨g,i4,none⟩=cs[i4]?/\w.cell? ⟨g,i5,none⟩=cs[i5]?/\w.cell? ⟨g,i6,none⟩=cs[i6]?/\w.cell? ⟨g,i7,none⟩=cs[i7]?:=⟨h.cell i0,h.cell i1,h.cell i2,h.cell i3,h.cell i4,h.cell i5,h.cell i6,h.cell i7⟩
theorem bf8 {w:World} {g:Nat} {cs:Array Value} {t:TypeId} (h:ac w g cs t) (i0 i1 i2 i3 i4 i5 i6 i7:Nat):w.frozen? ⟨g,i0,none⟩=false/\w.frozen? ⟨g,i1,none⟩=false/\w.frozen? ⟨g,i2,none⟩=false/\w.frozen? ⟨g,i3,none⟩=false/\w.frozen? ⟨g,i4,none⟩=false/\w.frozen? ⟨g,i5,none⟩=false/\w.frozen? ⟨g,i6,none⟩=false/\w.frozen? ⟨g,i7,none⟩=false:=⟨h.froz i0,h.froz i1,h.froz i2,h.froz i3,h.froz i4,h.froz i5,h.froz i6,h.froz i7⟩
theorem bc9 {w:World} {g:Nat} {cs:Array Value} {t:TypeId} (h:ac w g cs t) (i0 i1 i2 i3 i4 i5 i6 i7 i8:Nat):w.cell? ⟨g,i0,none⟩=cs[i0]?/\w.cell? ⟨g,i1,none⟩=cs[i1]?/\w.cell? ⟨g,i2,none⟩=cs[i2]?/\w.cell? ⟨g,i3,none⟩=cs[i3]?/\w.cell? ⟨g,i4,none⟩=cs[i4]?/\w.cell? ⟨g,i5,none⟩=cs[i5]?/\w.cell? ⟨g,i6,none⟩=cs[i6]?/\w.cell? ⟨g,i7,none⟩=cs[i7]?/\w.cell? ⟨g,i8,none⟩=cs[i8]?:=⟨h.cell i0,h.cell i1,h.cell i2,h.cell i3,h.cell i4,h.cell i5,h.cell i6,h.cell i7,h.cell i8⟩
theorem bf9 {w:World} {g:Nat} {cs:Array Value} {t:TypeId} (h:ac w g cs t) (i0 i1 i2 i3 i4 i5 i6 i7 i8:Nat):w.frozen? ⟨g,i0,none⟩=false/\w.frozen? ⟨g,i1,none⟩=false/\w.frozen? ⟨g,i2,none⟩=false/\w.frozen? ⟨g,i3,none⟩=false/\w.frozen? ⟨g,i4,none⟩=false/\w.frozen? ⟨g,i5,none⟩=false/\w.frozen? ⟨g,i6,none⟩=false/\w.frozen? ⟨g,i7,none⟩=false/\w.frozen? ⟨g,i8,none⟩=false:=⟨h.froz i0,h.froz i1,h.froz i2,h.froz i3,h.froz i4,h.froz i5,h.froz i6,h.froz i7,h.froz i8⟩
theorem bc10 {w:World} {g:Nat} {cs:Array Value} {t:TypeId} (h:ac w g cs t) (i0 i1 i2 i3 i4 i5 i6 i7 i8 i9:Nat):w.cell? ⟨g,i0,none⟩=cs[i0]?/\w.cell? ⟨g,i1,none⟩=cs[i1]?/\w.cell? ⟨g,i2,none⟩=cs[i2]?/\w.cell? ⟨g,i3,none⟩=cs[i3]?/\w.cell? ⟨g,i4,none⟩=cs[i4]?/\w.cell? ⟨g,i5,none⟩=cs[i5]?/\w.cell? ⟨g,i6,none⟩=cs[i6]?/\w.cell? ⟨g,i7,none⟩=cs[i7]?/\w.cell? ⟨g,i8,none⟩=cs[i8]?/\w.cell? ⟨g,i9,none⟩=cs[i9]?:=⟨h.cell i0,h.cell i1,h.cell i2,h.cell i3,h.cell i4,h.cell i5,h.cell i6,h.cell i7,h.cell i8,h.cell i9⟩
theorem bf10 {w:World} {g:Nat} {cs:Array Value} {t:TypeId} (h:ac w g cs t) (i0 i1 i2 i3 i4 i5 i6 i7 i8 i9:Nat):w.frozen? ⟨g,i0,none⟩=false/\w.frozen? ⟨g,i1,none⟩=false/\w.frozen? ⟨g,i2,none⟩=false/\w.frozen? ⟨g,i3,none⟩=false/\w.frozen? ⟨g,i4,none⟩=false/\w.frozen? ⟨g,i5,none⟩=false/\w.frozen? ⟨g,i6,none⟩=false/\w.frozen? ⟨g,i7,none⟩=false/\w.frozen? ⟨g,i8,none⟩=false/\w.frozen? ⟨g,i9,none⟩=false:=⟨h.froz i0,h.froz i1,h.froz i2,h.froz i3,h.froz i4,h.froz i5,h.froz i6,h.froz i7,h.froz i8,h.froz i9⟩
theorem bc11 {w:World} {g:Nat} {cs:Array Value} {t:TypeId} (h:ac w g cs t) (i0 i1 i2 i3 i4 i5 i6 i7 i8 i9 i10:Nat):w.cell? ⟨g,i0,none⟩=cs[i0]?/\w.cell? ⟨g,i1,none⟩=cs[i1]?/\w.cell? ⟨g,i2,none⟩=cs[i2]?/\w.cell? ⟨g,i3,none⟩=cs[i3]?/\w.cell? ⟨g,i4,none⟩=cs[i4]?/\w.cell? ⟨g,i5,none⟩=cs[i5]?/\w.cell? ⟨g,i6,none⟩=cs[i6]?/\w.cell? ⟨g,i7,none⟩=cs[i7]?/\w.cell? ⟨g,i8,none⟩=cs[i8]?/\w.cell? ⟨g,i9,none⟩=cs[i9]?/\w.cell? ⟨g,i10,none⟩=cs[i10]?:=⟨h.cell i0,h.cell i1,h.cell i2,h.cell i3,h.cell i4,h.cell i5,h.cell i6,h.cell i7,h.cell i8,h.cell i9,h.cell i10⟩
theorem bf11 {w:World} {g:Nat} {cs:Array Value} {t:TypeId} (h:ac w g cs t) (i0 i1 i2 i3 i4 i5 i6 i7 i8 i9 i10:Nat):w.frozen? ⟨g,i0,none⟩=false/\w.frozen? ⟨g,i1,none⟩=false/\w.frozen? ⟨g,i2,none⟩=false/\w.frozen? ⟨g,i3,none⟩=false/\w.frozen? ⟨g,i4,none⟩=false/\w.frozen? ⟨g,i5,none⟩=false/\w.frozen? ⟨g,i6,none⟩=false/\w.frozen? ⟨g,i7,none⟩=false/\w.frozen? ⟨g,i8,none⟩=false/\w.frozen? ⟨g,i9,none⟩=false/\w.frozen? ⟨g,i10,none⟩=false:=⟨h.froz i0,h.froz i1,h.froz i2,h.froz i3,h.froz i4,h.froz i5,h.froz i6,h.froz i7,h.froz i8,h.froz i9,h.froz i10⟩
theorem bc12 {w:World} {g:Nat} {cs:Array Value} {t:TypeId} (h:ac w g cs t) (i0 i1 i2 i3 i4 i5 i6 i7 i8 i9 i10 i11:Nat):w.cell? ⟨g,i0,none⟩=cs[i0]?/\w.cell? ⟨g,i1,none⟩=cs[i1]?/\w.cell? ⟨g,i2,none⟩=cs[i2]?/\w.cell? ⟨g,i3,none⟩=cs[i3]?/\w.cell? ⟨g,i4,none⟩=cs[i4]?/\w.cell? ⟨g,i5,none⟩=cs[i5]?/\w.cell? ⟨g,i6,none⟩=cs[i6]?/\w.cell? ⟨g,i7,none⟩=cs[i7]?/\w.cell? ⟨g,i8,none⟩=cs[i8]?/\w.cell? ⟨g,i9,none⟩=cs[i9]?/\w.cell? ⟨g,i10,none⟩=cs[i10]?/\w.cell? ⟨g,i11,none⟩=cs[i11]?:=⟨h.cell i0,h.cell i1,h.cell i2,h.cell i3,h.cell i4,h.cell i5,h.cell i6,h.cell i7,h.cell i8,h.cell i9,h.cell i10,h.cell i11⟩
theorem bf12 {w:World} {g:Nat} {cs:Array Value} {t:TypeId} (h:ac w g cs t) (i0 i1 i2 i3 i4 i5 i6 i7 i8 i9 i10 i11:Nat):w.frozen? ⟨g,i0,none⟩=false/\w.frozen? ⟨g,i1,none⟩=false/\w.frozen? ⟨g,i2,none⟩=false/\w.frozen? ⟨g,i3,none⟩=false/\w.frozen? ⟨g,i4,none⟩=false/\w.frozen? ⟨g,i5,none⟩=false/\w.frozen? ⟨g,i6,none⟩=false/\w.frozen? ⟨g,i7,none⟩=false/\w.frozen? ⟨g,i8,none⟩=false/\w.frozen? ⟨g,i9,none⟩=false/\w.frozen? ⟨g,i10,none⟩=false/\w.frozen? ⟨g,i11,none⟩=false:=⟨h.froz i0,h.froz i1,h.froz i2,h.froz i3,h.froz i4,h.froz i5,h.froz i6,h.froz i7,h.froz i8,h.froz i9,h.froz i10,h.froz i11⟩
theorem bc13 {w:World} {g:Nat} {cs:Array Value} {t:TypeId} (h:ac w g cs t) (i0 i1 i2 i3 i4 i5 i6 i7 i8 i9 i10 i11 i12:Nat):w.cell? ⟨g,i0,none⟩=cs[i0]?/\w.cell? ⟨g,i1,none⟩=cs[i1]?/\w.cell? ⟨g,i2,none⟩=cs[i2]?/\w.cell? ⟨g,i3,none⟩=cs[i3]?/\w.cell? ⟨g,i4,none⟩=cs[i4]?/\w.cell? ⟨g,i5,none⟩=cs[i5]?/\w.cell? ⟨g,i6,none⟩=cs[i6]?/\w.cell? ⟨g,i7,none⟩=cs[i7]?/\w.cell? ⟨g,i8,none⟩=cs[i8]?/\w.cell? ⟨g,i9,none⟩=cs[i9]?/\w.cell? ⟨g,i10,none⟩=cs[i10]?/\w.cell? ⟨g,i11,none⟩=cs[i11]?/\w.cell? ⟨g,i12,none⟩=cs[i12]?:=⟨h.cell i0,h.cell i1,h.cell i2,h.cell i3,h.cell i4,h.cell i5,h.cell i6,h.cell i7,h.cell i8,h.cell i9,h.cell i10,h.cell i11,h.cell i12⟩
theorem bf13 {w:World} {g:Nat} {cs:Array Value} {t:TypeId} (h:ac w g cs t) (i0 i1 i2 i3 i4 i5 i6 i7 i8 i9 i10 i11 i12:Nat):w.frozen? ⟨g,i0,none⟩=false/\w.frozen? ⟨g,i1,none⟩=false/\w.frozen? ⟨g,i2,none⟩=false/\w.frozen? ⟨g,i3,none⟩=false/\w.frozen? ⟨g,i4,none⟩=false/\w.frozen? ⟨g,i5,none⟩=false/\w.frozen? ⟨g,i6,none⟩=false/\w.frozen? ⟨g,i7,none⟩=false/\w.frozen? ⟨g,i8,none⟩=false/\w.frozen? ⟨g,i9,none⟩=false/\w.frozen? ⟨g,i10,none⟩=false/\w.frozen? ⟨g,i11,none⟩=false/\w.frozen? ⟨g,i12,none⟩=false:=⟨h.froz i0,h.froz i1,h.froz i2,h.froz i3,h.froz i4,h.froz i5,h.froz i6,h.froz i7,h.froz i8,h.froz i9,h.froz i10,h.froz i11,h.froz i12⟩
theorem bc14 {w:World} {g:Nat} {cs:Array Value} {t:TypeId} (h:ac w g cs t) (i0 i1 i2 i3 i4 i5 i6 i7 i8 i9 i10 i11 i12 i13:Nat):w.cell? ⟨g,i0,none⟩=cs[i0]?/\w.cell? ⟨g,i1,none⟩=cs[i1]?/\w.cell? ⟨g,i2,none⟩=cs[i2]?/\w.cell? ⟨g,i3,none⟩=cs[i3]?/\w.cell? ⟨g,i4,none⟩=cs[i4]?/\w.cell? ⟨g,i5,none⟩=cs[i5]?/\w.cell? ⟨g,i6,none⟩=cs[i6]?/\w.cell? ⟨g,i7,none⟩=cs[i7]?/\w.cell? ⟨g,i8,none⟩=cs[i8]?/\w.cell? ⟨g,i9,none⟩=cs[i9]?/\w.cell? ⟨g,i10,none⟩=cs[i10]?/\w.cell? ⟨g,i11,none⟩=cs[i11]?/\w.cell? ⟨g,i12,none⟩=cs[i12]?/\w.cell? ⟨g,i13,none⟩=cs[i13]?:=⟨h.cell i0,h.cell i1,h.cell i2,h.cell i3,h.cell i4,h.cell i5,h.cell i6,h.cell i7,h.cell i8,h.cell i9,h.cell i10,h.cell i11,h.cell i12,h.cell i13⟩
theorem bf14 {w:World} {g:Nat} {cs:Array Value} {t:TypeId} (h:ac w g cs t) (i0 i1 i2 i3 i4 i5 i6 i7 i8 i9 i10 i11 i12 i13:Nat):w.frozen? ⟨g,i0,none⟩=false/\w.frozen? ⟨g,i1,none⟩=false/\w.frozen? ⟨g,i2,none⟩=false/\w.frozen? ⟨g,i3,none⟩=false/\w.frozen? ⟨g,i4,none⟩=false/\w.frozen? ⟨g,i5,none⟩=false/\w.frozen? ⟨g,i6,none⟩=false/\w.frozen? ⟨g,i7,none⟩=false/\w.frozen? ⟨g,i8,none⟩=false/\w.frozen? ⟨g,i9,none⟩=false/\w.frozen? ⟨g,i10,none⟩=false/\w.frozen? ⟨g,i11,none⟩=false/\w.frozen? ⟨g,i12,none⟩=false/\w.frozen? ⟨g,i13,none⟩=false:=⟨h.froz i0,h.froz i1,h.froz i2,h.froz i3,h.froz i4,h.froz i5,h.froz i6,h.froz i7,h.froz i8,h.froz i9,h.froz i10,h.froz i11,h.froz i12,h.froz i13⟩
structure aa (P:Nat->Prop) (w w':World):Prop where
 os:w'.os=w.os
 tape:w'.tape=w.tape
 output:w'.output=w.output
 size:w.heap.size<=w'.heap.size
 block:∀k,k<w.heap.size->¬P k->w'.heap[k]? = w.heap[k]?
section
variable {P Q:Nat->Prop} {w w1 w2:World} {B g:Nat} {cs:Array Value} {t:TypeId}
theorem aa.refl (P:Nat->Prop) (w:World):aa P w w:=⟨rfl,rfl,rfl,nR _,fun _ _ _=>rfl⟩
theorem aa.trans (h:aa P w w1) (k:aa P w1 w2):aa P w w2:=
 ⟨k.os.trans h.os,k.tape.trans h.tape,k.output.trans h.output,nT h.size k.size,fun i hi hp=>(k.block i (Nat.lt_of_lt_of_le hi h.size) hp).trans (h.block i hi hp)⟩
theorem aa.mono (h:aa P w w1) (hPQ:∀k,k<w.heap.size->P k->Q k):aa Q w w1:=⟨h.os,h.tape,h.output,h.size,fun k hk hq=>h.block k hk fun hp=>hq (hPQ k hk hp)⟩
theorem aa.drew (h:aa P w w1):aa P w w1.drew:=⟨h.os,h.tape,h.output,h.size,h.block⟩
theorem aa.drewN (h:aa P w w1) (n:Nat):aa P w (w1.drewN n):=⟨h.os,h.tape,h.output,h.size,h.block⟩
theorem aa.setCell (h:aa P w w1) {p:Addr} (hp:P p.block) (u:Value):aa P w (w1.setCell p u):=
 h.trans ⟨rfl,rfl,rfl,by simp[World.setCell],fun k _ hk=>Below.heap_setCell _ _ _ _ (fun e=>hk (e▸hp))⟩
theorem aa.alloc (h:aa P w w1) (o:Obj):aa P w (w1.alloc o):=
 h.trans ⟨rfl,rfl,rfl,by simp,fun k hk _=>Below.heap_alloc _ _ _ hk⟩
theorem aa.setRow (h:aa P w w1) {g:Nat} (hp:P g) (cs:Array Value):aa P w (w1.setRow g cs):=
 h.trans ⟨rfl,rfl,rfl,by simp[World.setRow],fun k _ hk=>setRow_other _ _ _ _ (fun e=>hk (e▸hp))⟩
theorem aa.below (h:aa P w w1) (hB:∀k,k<w.heap.size->P k->B<=k) (hw:B<=w.heap.size):Below B w w1:=⟨h.os,h.tape,h.output,h.size,fun k hk=>h.block k (by omega) fun hp=>by have:=hB k (by omega) hp;omega⟩
theorem aa.of_below (h:Below w.heap.size w w1):aa P w w1:=⟨h.os,h.tape,h.output,h.size,fun k hk _=>h.block k hk⟩
theorem ac.touch (h:ac w g cs t) (hb:aa P w w1) (hg:¬P g):ac w1 g cs t:=(hb.block g h.lt hg).trans h
theorem ac.row (h:ac w g cs t) (ds:Array Value):ac (w.setRow g ds) g ds t:=setRow_heap w g cs ds t (0,0) h
theorem ac.ne {g':Nat} {t':TypeId} {cs':Array Value} (h:ac w g cs t) (h':ac w g' cs' t') (hne:t≠t'):g≠g':=by
 rintro rfl;unfold ac at h h';rw[h] at h';injection h' with h'
 injection h' with _ ht
 exact hne ht
theorem ac.drewN (h:ac w g cs t) (n:Nat):ac (w.drewN n) g cs t:=h
end
end Go.Proofs.YthjbodpeckebiaaGreatDoor
-- Same
namespace Go.Proofs.YthjbodpeckebiaaGreatDoor
open Go.RowKit
theorem ru (m t r m' t' r':ByteArray) (k n k' n':Int) (f f':Value) {p1 p2 p3 p4 p5:Bool} (h1:(m.toList==m'.toList)=p1) (h2:(t.toList==t'.toList)=p2) (h3:(k==k')=p3) (h4:(n==n')=p4) (h5:(r.toList==r'.toList)=p5) (w:World):
 Calls Tryz.prog 43 #[.agg #[.string m,.string t,.int .i64 k,.int .i64 n,.string r,f],.agg #[.string m',.string t',.int .i64 k',.int .i64 n',.string r',f']] w fun e w'=>e=.returned (.bool (p1&&(p2&&(p3&&(p4&&p5)))))/\Below w.heap.size w w':=by
 have hc:p1=false\/(p1=true/\p2=false)\/(p1=true/\p2=true/\p3=false)\/(p1=true/\p2=true/\p3=true/\p4=false)\/(p1=true/\p2=true/\p3=true/\p4=true):=by cases p1<;>cases p2<;>cases p3<;>cases p4<;>simp
 rcases hc with rfl|⟨rfl,rfl⟩|⟨rfl,rfl,rfl⟩|⟨rfl,rfl,rfl,rfl⟩|⟨rfl,rfl,rfl,rfl⟩
 all_goals
  go_enter Tryz.func43,Tryz.ntmps43
  go_wp2_with fail
  go_ret;refine⟨?_,((Below.refl _ _).alloc (nR _) _).alloc (by simp) _⟩
  first
   | rfl
   | (rw[<-h5];rfl)
end Go.Proofs.YthjbodpeckebiaaGreatDoor
-- Held
namespace Go
theorem br {P:Program} {S:World->Prop} {id:Nat} {ops:Array Oper} {Q:Exit->Act->World->Prop} {a:Act} {w:World} (hm:P.follows .mixedOrders=true) (h:∀w1,w1=w.drew->wpAnyH P .any ops Q S ops.size (Array.replicate ops.size false) a w1):(Code.region id ops true).wp P Q a w:=wp_region_held hm (h _ rfl)
end Go
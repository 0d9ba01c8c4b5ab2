/- Texts packed for one claim, 9 of 48: Put Strs. -/
import Derived.Test.YthjbodpeckebiaaGreatDoorRdnQ5
import Derived.Deep.AppendLies
import Derived.Test.YthjbodpeckebiaaGreatDoorRdnQ2
import Derived.IntWalk
set_option linter.unusedSimpArgs false
set_option linter.unusedVariables false
-- Put
namespace Go.Proofs.YthjbodpeckebiaaGreatDoor
open Go.RowKit
theorem oo {w w':World} {row:Option Nat} {g:Nat} {cs:Array Value} {t:TypeId} (h:ac w g cs t) (hg:w.grownBy w' row) (hne:row≠some g):ac w' g cs t:=(hg.block g h.lt (fun e=>hne e.symm)).trans h
theorem iw:(Tryz.prog.info? 95).map (fun i=>(i.zero,i.size,i.bytes))=some (some (.agg #[.string ⟨#[]⟩,.string ⟨#[]⟩]),2,32):=by kernel_rfl
theorem oS (w:World) (p:Addr) (v:Value):w.grownBy (w.setCell p v) (some p.block):=⟨rfl,rfl,rfl,by simp[World.setCell],fun k _ hne=>Below.heap_setCell w p v k (fun e=>hne (by rw[e]))⟩
theorem aV {w:World} {B:Nat} {e:TypeId} {size:Nat} {v:Value} {n:Nat} {xs:List Value} (h:w.ownsRow B e size v n xs):∃p c,v=.slice p n c:=by
 obtain⟨_,h⟩:=h;rcases h with ⟨rfl,rfl⟩|⟨g,cap,cur,rfl,_⟩
 ·exact⟨_,_,rfl⟩
 ·exact⟨_,_,rfl⟩
theorem cB {w:World} {B:Nat} {e:TypeId} {size:Nat} {v:Value} {n:Nat} {xs:List Value} (h:w.ownsRow B e size v n xs) {g:Nat} (hg:g<B) (i:Nat) (u:Value):(w.setCell ⟨g,i,none⟩ u).ownsRow B e size v n xs:=by
 refine h.kept (oS w ⟨g,i,none⟩ u) ?_;cases hv:v.ownBlock with
 | none=>exact Or.inl rfl
 | some b=>
   right
   have:=(h.lt b hv).1;intro e;have:b=g:=by simpa using e
   omega
def tQ (w:World) (g:Nat) (a b c d e f:Value):World:=(((((w.setCell ⟨g,0,none⟩ a).setCell ⟨g,1,none⟩ b).setCell ⟨g,2,none⟩ c).setCell ⟨g,3,none⟩ d).setCell ⟨g,4,none⟩ e).setCell ⟨g,5,none⟩ f
theorem cI {w:World} {g:Nat} {t:TypeId} {x0 x1 x2 x3 x4 x5:Value} (h:ac w g #[x0,x1,x2,x3,x4,x5] t) (a b c d e f:Value):ac (tQ w g a b c d e f) g #[a,b,c,d,e,f] t:=by
 have:=(((((h.set 0 a).set 1 b).set 2 c).set 3 d).set 4 e).set 5 f;simp at this;exact this
theorem lK {w:World} {B:Nat} {ty:TypeId} {size:Nat} {v:Value} {n:Nat} {xs:List Value} (h:w.ownsRow B ty size v n xs) {g:Nat} (hg:g<B) (a b c d e f:Value):(tQ w g a b c d e f).ownsRow B ty size v n xs:=
 cB (cB (cB (cB (cB (cB h hg _ _) hg _ _) hg _ _) hg _ _) hg _ _) hg _ _
theorem bG {w w':World} {B g:Nat} (h:Below B w w') (hg:B<=g) (a b c d e f:Value):Below B w (tQ w' g a b c d e f):=
 (((((h.setCell hg _).setCell hg _).setCell hg _).setCell hg _).setCell hg _).setCell hg _
end Go.Proofs.YthjbodpeckebiaaGreatDoor
-- Strs
namespace Go.Proofs.YthjbodpeckebiaaGreatDoor
open Go.RowKit
def dy (w:World) (v:Value) (l:List ByteArray):Prop:=
 ∃p c,v=.slice p l.length c/\∀i (h:i<l.length),∃b off,p=some ⟨b,off,none⟩/\w.cell? ⟨b,off+i,none⟩=some (.string l[i])
theorem dy.below {w w':World} {v:Value} {l:List ByteArray} (h:dy w v l) (hb:Below w.heap.size w w'):dy w' v l:=by
 obtain⟨p,c,hv,hc⟩:=h;refine⟨p,c,hv,fun i hi=>?_⟩;obtain⟨b,off,hp,h1⟩:=hc i hi;have hlt:=t8 w _ h1;exact⟨b,off,hp,((dY hb) b _ hlt).trans h1⟩
theorem dy.nil (w:World) (p:Option Addr) (c:Nat):dy w (.slice p 0 c) []:=⟨p,c,rfl,fun i hi=>absurd hi (uL _)⟩
def ao (w:World) (B:Nat) (v:Value) (l:List ByteArray):Prop:=w.ownsRow B 9 1 v l.length (l.map Value.string)
theorem ao.strs {w:World} {B:Nat} {v:Value} {l:List ByteArray} (h:ao w B v l):dy w v l:=by
 obtain⟨_,h⟩:=h;rcases h with ⟨rfl,h0⟩|⟨g,cap,cur,rfl,_,hg,h1,h2,h3,h4⟩
 ·have:l=[]:=t9 h0
  subst this;exact dy.nil _ _ _
 ·refine⟨_,cap,rfl,fun i hi=>⟨g,0,rfl,?_⟩⟩
  have a:(l.map Value.string)[i]? = some (.string l[i]):=by rw[u2,tW hi];rfl
  rw[<-h4,vg,if_pos (by omega)] at a;simp only[World.cell?,hg,uJ];simp only[Array.getElem?_toList] at a;exact a
theorem ao.start (w:World) (B:Nat):ao w B (.slice none 0 0) []:=uz _ _ _ _
theorem ao.shape {w:World} {B:Nat} {v:Value} {l:List ByteArray} (h:ao w B v l):∃p c,v=.slice p l.length c:=by
 obtain⟨_,h⟩:=h;rcases h with ⟨rfl,h0⟩|⟨g,cap,cur,rfl,_⟩
 ·exact⟨_,_,by rw[h0]⟩
 ·exact⟨_,_,rfl⟩
theorem ao.block {w:World} {B:Nat} {v:Value} {l:List ByteArray} (h:ao w B v l) (h0:0<l.length):∃g cap cur,v=.slice (some ⟨g,0,none⟩) l.length cap/\B<=g/\w.heap[g]? = some (.cells cur 9 (0,0))/\l.length<=cur.size/\cur.toList.take l.length=l.map Value.string:=by
 obtain⟨_,h⟩:=h;rcases h with ⟨_,h1⟩|⟨g,cap,cur,hv,hB,hg,h1,h2,h3,h4⟩
 ·omega
 ·rw[Nat.mul_one] at h3 h4
  exact⟨g,cap,cur,hv,hB,hg,by omega,h4⟩
theorem ao.keep {P:Nat->Prop} {w w1:World} {B:Nat} {v:Value} {l:List ByteArray} (h:ao w B v l) (ht:aa P w w1) (hP:∀g,B<=g->¬P g):ao w1 B v l:=by
 obtain⟨h1,h2⟩:=h;refine⟨h1,?_⟩;rcases h2 with h2|⟨g,cap,cur,hv,hB,hg,rest⟩
 ·exact Or.inl h2
 ·exact Or.inr ⟨g,cap,cur,hv,hB,(ht.block g ((ua.1 hg).1) (hP g hB)).trans hg,rest⟩
theorem ao.call {w w1:World} {B:Nat} {v:Value} {l:List ByteArray} (h:ao w B v l) (hb:Below w.heap.size w w1):ao w1 B v l:=h.keep (P:=fun _=>False) (aa.of_below hb) (fun _ _=>id)
theorem ao.alloc {w:World} {B:Nat} {v:Value} {l:List ByteArray} (h:ao w B v l) (o:Obj):ao (w.alloc o) B v l:=h.keep (P:=fun _=>False) ((aa.refl _ w).alloc o) (fun _ _=>id)
theorem ao.lower {w:World} {B B':Nat} {v:Value} {l:List ByteArray} (h:ao w B v l) (hB:B'<=B):ao w B' v l:=by
 obtain⟨h1,h2⟩:=h;refine⟨h1,?_⟩;rcases h2 with h2|⟨g,cap,cur,hv,hg,rest⟩
 ·exact Or.inl h2
 ·exact Or.inr ⟨g,cap,cur,hv,by omega,rest⟩
theorem ao.drew {w:World} {B:Nat} {v:Value} {l:List ByteArray} (h:ao w B v l):ao w.drew B v l:=h
theorem ao.set {w:World} {B g cap:Nat} {l:List ByteArray} (h:ao w B (.slice (some ⟨g,0,none⟩) l.length cap) l) (i:Nat) (hi:i<l.length) (x:ByteArray):ao (w.setCell ⟨g,i,none⟩ (.string x)) B (.slice (some ⟨g,0,none⟩) (l.set i x).length cap) (l.set i x):=by
 obtain⟨h1,h2⟩:=h;rcases h2 with ⟨hv,_⟩|⟨g',cap',cur,hv,hB,hg,k1,k2,k3,k4⟩
 ·cases hv
 ·cases hv
  have hl:(l.set i x).length=l.length:=List.length_set;refine⟨by simp,Or.inr ⟨g,cap,cur.setIfInBounds i (.string x),rfl,hB,?_,by omega,k2,by simpa using k3,?_⟩⟩
  ·simp[World.setCell,Array.getElem?_modify,hg]
  ·rw[Array.toList_setIfInBounds,List.take_set,hl,k4,List.map_set]
theorem ix:(Tryz.prog.info? 9).map (fun i=>(i.zero,i.size,i.bytes))=some (some (.string ⟨#[]⟩),1,16):=by kernel_rfl
theorem ao.cell {w:World} {B g cap:Nat} {l:List ByteArray} (h:ao w B (.slice (some ⟨g,0,none⟩) l.length cap) l) (i:Nat) (hi:i<l.length):w.cell? ⟨g,i,none⟩=some (.string l[i]):=by
 obtain⟨p,c,hv,hc⟩:=h.strs;obtain⟨b,off,hp,h1⟩:=hc i hi;cases hv
 cases hp
 rw[uJ] at h1;exact h1
theorem dR {ops:Array Oper} {rest:List Oper} {o:Oper} {a:Act} {Q:Exit->Act->World->Prop} (hgd:o.guard=none) (s x:Operand)
 (ho:o.op=.call { callee:=.builtin .append,args:=#[s,x],argTypes:=#[22,22] }) {w:World} {B:Nat} {v:Value} {l:List ByteArray} (hs:a.eval s=v) (hown:ao w B v l) (y:ByteArray)
 (hx:a.eval x=.slice (some ⟨w.heap.size,0,none⟩) 1 1) (hl:l.length<=1000000) (hB:B<=w.heap.size)
 (h:∀p c w1,ao w1 B (.slice p (l.length+1) c) (l++[y])->(w.alloc (.cells #[.string y] 9)).grownBy w1 v.ownBlock->Below B w w1->wpList Tryz.prog ops Q rest (a.put o.dst (.slice p (l.length+1) c)) w1):
 wpList Tryz.prog ops Q (o :: rest) a (w.alloc (.cells #[.string y] 9)):=by
 obtain⟨i0,hi,hz0,hz1,hz2⟩:=info_parts ix;have hlo:=(hown.alloc (.cells #[.string y] 9)).lt;refine wpList_append_own _ hgd s x 22 ho B 9 i0 _ 1 16 Tryz.underlying22 hi hz0 hz1 hz2 rfl (by decide) v l.length (l.map Value.string) hs (hown.alloc _) ⟨w.heap.size,0,none⟩ 1 1 [.string y] hx rfl ?c1 ?c2 ?c3 ?c4 ?c5 ?_;case c1=>exact World.news_of_block (cs:=#[.string y]) (t:=9) (fr:=(0,0)) (heap_alloc_new w _)
 case c2=>simp[Value.oneCell']
 case c3=>unfold maxLen;omega
 case c4=>omega
 case c5=>simp;omega
 intro v' w1 hown1 hg _;obtain⟨p',c',rfl⟩:=aV hown1;refine h p' c' w1 ?_ hg (((tU _ _).alloc hB _).grown hg (by simp;omega) (fun j hj=>by have:=(hlo j hj).1;omega));show w1.ownsRow B 9 1 _ (l++[y]).length ((l++[y]).map Value.string);rw[ue,uw];exact hown1
theorem ao.empty (w:World):ao (w.alloc (.cells #[] 9)) w.heap.size (.slice (some ⟨w.heap.size,0,none⟩) 0 0) []:=World.ownsRow_lit w #[] 0 (nR _) (by decide) rfl
theorem ao.cap {w:World} {B g cap:Nat} {l:List ByteArray} {n:Nat} (h:ao w B (.slice (some ⟨g,0,none⟩) n cap) l):l.length<=cap:=by
 obtain⟨_,h⟩:=h;rcases h with ⟨hv,_⟩|⟨g',cap',cur,hv,_,_,h1,_⟩
 ·cases hv
 ·cases hv
  exact h1
end Go.Proofs.YthjbodpeckebiaaGreatDoor
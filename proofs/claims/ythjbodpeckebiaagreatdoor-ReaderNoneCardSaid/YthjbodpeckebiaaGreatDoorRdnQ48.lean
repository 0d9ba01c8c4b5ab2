/- Texts packed for one claim, 48 of 48: MsF RdrA RdrB RdrC RdrD RdrE RdrF RdrG RdrH RdrI RdrJ RdrK RdrN. -/
import Derived.Test.YthjbodpeckebiaaGreatDoorRdnQ39
import Derived.Test.YthjbodpeckebiaaGreatDoorRdnQ45
import Derived.Test.YthjbodpeckebiaaGreatDoorRdnQ29
import Derived.Test.YthjbodpeckebiaaGreatDoorRdnQ46
import Derived.Test.YthjbodpeckebiaaGreatDoorRdnQ32
import Derived.Test.YthjbodpeckebiaaGreatDoorRdnQ20
import Derived.Test.YthjbodpeckebiaaGreatDoorRdnQ47
import Derived.Test.YthjbodpeckebiaaGreatDoorRdnQ38
import Derived.Test.YthjbodpeckebiaaGreatDoorRdnQ5
set_option maxRecDepth 100000
set_option maxHeartbeats 16000000
set_option linter.unusedSimpArgs false
set_option linter.unusedVariables false
-- MsF
namespace Go.Proofs.YthjbodpeckebiaaGreatDoor
open Go.RowKit
end Go.Proofs.YthjbodpeckebiaaGreatDoor
-- RdrA
namespace Go.Proofs.YthjbodpeckebiaaGreatDoor
open Go.RowKit
structure fi where
 hd:Hd
 fk:Int
 fl:Int
 trl:List Fd
 me:ByteArray
 p:cY
 d:Option am
 ended:Bool
 e:Int
def rP (a:Int):fi:=⟨cR,0,0,[],⟨#[]⟩,pa0 a,none,false,0⟩
def mS (p:cY):Bool:=!p.all.isEmpty||p.fin||p.ln.within
def iW (s:fi):Int:=if s.e≠0 then 3 else if s.ended=true then 2 else if s.d.isSome=true then 1 else if mS s.p=true then 1 else 0
def eT (a:Int) (me:ByteArray) (s:fi):fi×Bool:=
 if iW s=2 then ({ rP a with me:=me },true) else if iW s=0 then ({ s with me:=me },true) else (s,false)
def dK (s:fi) (e:Int):fi×List Pc:=({ s with e:=e },[⟨5,e,⟨#[]⟩⟩])
def sY (s:fi) (q:am):fi:={ s with d:=some (jn q),e:=q.e,ended:=q.over,trl:=if q.over=true then q.tr else s.trl }
def kz (kind:Int) (m:Lm) (s:fi) (P:cY×Nat):fi×Nat×List Pc:=
 if P.1.e≠0 then ((dK { s with p:=P.1 } P.1.e).1,P.2,(dK { s with p:=P.1 } P.1.e).2)
 else if P.1.fin=false then ({ s with p:=P.1 },P.2,[])
 else if (eC kind P.1.hd s.me).2.2≠0 then ((dK { s with p:=P.1 } (eC kind P.1.hd s.me).2.2).1,P.2,(dK { s with p:=P.1 } (eC kind P.1.hd s.me).2.2).2)
 else ({ s with p:=P.1,hd:=P.1.hd,fk:=(eC kind P.1.hd s.me).1,fl:=(eC kind P.1.hd s.me).2.1,d:=some (aZ m (eC kind P.1.hd s.me).1 (eC kind P.1.hd s.me).2.1) },P.2,[⟨1,0,⟨#[]⟩⟩])
structure oc where
 vf:Value
 vt:Value
 b:Nat
 g:Nat
 B:Nat
 vl:Value
 va:Value
 vp:Value
 vd:Value
 D:Nat
 V:bh
def fC (kind:Int) (m:Lm) (s:fi) (V:oc):Array Value:=#[.string s.hd.m,.string s.hd.t,.int .i64 s.hd.k,.int .i64 s.hd.n,.string s.hd.r,V.vf,.int .i64 s.fk,.int .i64 s.fl,V.vt,.int .i64 kind,.int .i64 m.head,.int .i64 m.fields,.int .i64 m.line,.int .i64 m.body,.int .i64 m.fold,.string s.me,.pointer (some ⟨V.b,0,none⟩),V.vd,.bool s.ended,.int .i64 s.e]
def sZ:List TypeId:=[88,114,136,5,9,117,80]
def kL (w:World) (n0:Nat) (l:List TypeId) (j:Nat):Prop:=n0<=j/\∃cs t,ac w j cs t/\t∈l
theorem fM {w w1 w2:World} {n0:Nat} {l:List TypeId} (t:aa (kL w n0 l) w w1) (t2:aa (kL w1 n0 l) w1 w2):aa (kL w n0 l) w w2:=
 aA t t2 fun j hj ⟨h1,cs,ty,hb,hm⟩=>Classical.byContradiction fun hn=>hn ⟨h1,cs,ty,by unfold ac at hb ⊢;rw[<-t.block j hj hn];exact hb,hm⟩
def ql (w:World) (n0:Nat) (m:Lm) (V:oc):Option am->Prop
 | none=>V.vd=.pointer none
 | some q=>V.vd=.pointer (some ⟨V.D,0,none⟩)/\ah w V.D n0 m q V.V/\bi m q/\q.out.length<=1000
structure aT (w:World) (R n0:Nat) (kind:Int) (m:Lm) (s:fi) (V:oc):Prop where
 k:ac w R (fC kind m s V) 88
 r:n0<=R
 f:aj w n0 V.vf s.hd.fs
 t:aj w n0 V.vt s.trl
 p:s.d=none->aI w V.b V.g V.B V.vl V.va V.vp kind m.head m.fields m.line m.body m.fold s.p/\n0<=V.b/\n0<=V.g
 d:ql w n0 m V s.d
end Go.Proofs.YthjbodpeckebiaaGreatDoor
-- RdrB
namespace Go.Proofs.YthjbodpeckebiaaGreatDoor
open Go.RowKit
section
variable {w:World} {R n0:Nat} {kind:Int} {m:Lm} {s:fi} {V:oc}
theorem cP (h:aT w R n0 kind m s V):Calls Tryz.prog 18 #[.pointer (some ⟨R,0,none⟩)] w fun e w'=>e=.returned (.int .i64 (iW s))/\w=w':=by
 have a16:w.cell? ⟨R,16,none⟩=some (.pointer (some ⟨V.b,0,none⟩)):=h.k.cell 16;have a17:w.cell? ⟨R,17,none⟩=some V.vd:=h.k.cell 17;have a18:w.cell? ⟨R,18,none⟩=some (.bool s.ended):=h.k.cell 18;have a19:w.cell? ⟨R,19,none⟩=some (.int .i64 s.e):=h.k.cell 19;obtain⟨Z,hZ⟩:∃Z,Z=iW s:=⟨_,rfl⟩;rw[<-hZ];unfold iW at hZ;have hd:=h.d;have hp:=h.p;clear h;obtain⟨hd',fk,fl,trl,me,p,d,ended,e⟩:=s;obtain⟨vf,vt,b,g,B,vl,va,vp,vd,D,V'⟩:=V;simp only at hZ hd hp a16 a17 a18 a19;by_cases he:e=0
 ·subst he
  cases ended
  ·cases d with
   | none=>
     obtain rfl:vd=.pointer none:=hd;have HB:=lH (my (hp rfl).1);rw[show (!p.all.isEmpty||p.fin||p.ln.within)=mS p from rfl] at HB;clear hp;cases hb:mS p<;>rw[hb] at HB hZ
     all_goals
      subst hZ;go_enter Tryz.func18,Tryz.ntmps18
      go_wp2_with (go_at_call 36;refine HB.out.mono ?_;rintro x1 w1 ⟨rfl,rfl⟩)
      go_ret;exact⟨rfl,rfl⟩
   | some q=>
     have e1:vd=.pointer (some ⟨D,0,none⟩):=hd.1;clear hd hp;subst e1;subst hZ;go_enter Tryz.func18,Tryz.ntmps18
     go_wp2_with fail
     go_ret;exact⟨rfl,rfl⟩
  ·clear hd hp
   subst hZ;go_enter Tryz.func18,Tryz.ntmps18
   go_wp2_with fail
   go_ret;exact⟨rfl,rfl⟩
 ·have e1:(e==0)=false:=tT.2 he
  have e2:(e != 0)=true:=uI.2 he;rw[if_pos he] at hZ;clear hd hp he;subst hZ;go_enter Tryz.func18,Tryz.ntmps18
  go_wp2_with fail
  go_ret;exact⟨rfl,rfl⟩
end
theorem dG (w:World):Calls Tryz.prog 18 #[.pointer none] w fun e w'=>e=.returned (.int .i64 3)/\w=w':=by
 go_enter Tryz.func18,Tryz.ntmps18
 go_wp2_with fail
 go_ret;exact⟨rfl,rfl⟩
theorem mO (S:ByteArray) (w:World):Calls Tryz.prog 21 #[.pointer none,.string S] w fun e w'=>e=.returned (.tuple #[.int .i64 0,.slice none 0 0])/\w=w':=by
 have HS:=lH dG;go_enter Tryz.func21,Tryz.ntmps21
 go_wp2_with (go_at_call 18;refine(HS.out _).mono ?_;rintro x1 w1 ⟨rfl,rfl⟩)
 go_ret2
 exact⟨rfl,rfl⟩
theorem lG (w:World):Calls Tryz.prog 22 #[.pointer none] w fun e w'=>e=.returned (.slice none 0 0)/\w=w':=by
 have HS:=lH dG;go_enter Tryz.func22,Tryz.ntmps22
 go_wp2_with (go_at_call 18;refine(HS.out _).mono ?_;rintro x1 w1 ⟨rfl,rfl⟩)
 go_ret;exact⟨rfl,rfl⟩
theorem lF (S:ByteArray) (w:World):Calls Tryz.prog 23 #[.pointer none,.string S] w fun e w'=>e=.returned (.bool false)/\w=w':=by
 have HS:=lH dG;go_enter Tryz.func23,Tryz.ntmps23
 go_wp2_with (go_at_call 18;refine(HS.out _).mono ?_;rintro x1 w1 ⟨rfl,rfl⟩)
 go_ret;exact⟨rfl,rfl⟩
theorem pd (w:World):Calls Tryz.prog 20 #[.pointer none] w fun e w'=>e=.returned (.int .i64 1)/\w=w':=by
 go_enter Tryz.func20,Tryz.ntmps20
 go_wp2_with fail
 go_ret;exact⟨rfl,rfl⟩
theorem mP (w:World):Calls Tryz.prog 25 #[.pointer none] w fun e w'=>e=.returned (.agg (cR.row aG))/\Below w.heap.size w w':=by
 go_enter Tryz.func25,Tryz.ntmps25
 go_wp2_with fail
 exact s5 Tryz.results25 rfl Tryz.underlying44 rfl (by kernel_rfl) rfl ⟨rfl,Ov.of⟩
theorem lI (w:World):Calls Tryz.prog 26 #[.pointer none] w fun e w'=>e=.returned (.agg #[.int .i64 0,.int .i64 0])/\Below w.heap.size w w':=by
 go_enter Tryz.func26,Tryz.ntmps26
 go_wp2_with fail
 exact s5 Tryz.results26 rfl Tryz.underlying46 rfl (by kernel_rfl) rfl ⟨rfl,Ov.of⟩
theorem lJ (w:World):Calls Tryz.prog 27 #[.pointer none] w fun e w'=>e=.returned (.slice none 0 0)/\w=w':=by
 go_enter Tryz.func27,Tryz.ntmps27
 go_wp2_with fail
 go_ret;exact⟨rfl,rfl⟩
end Go.Proofs.YthjbodpeckebiaaGreatDoor
-- RdrC
namespace Go.Proofs.YthjbodpeckebiaaGreatDoor
open Go.RowKit
def rl:List TypeId:=[114,136,5,9,95,117,80,86,20]
section
variable {P:Nat->Prop} {w w1:World} {R n0:Nat} {kind:Int} {m:Lm} {s:fi} {V:oc} {l:List TypeId}
theorem aI.touchT {b g B:Nat} {vl va vf:Value} {kind a fields c d fold:Int} {p:cY} (h:aI w b g B vl va vf kind a fields c d fold p) (t:aa P w w1) (hP:bZ w P l) (hl:∀x∈rl,x∉l):aI w1 b g B vl va vf kind a fields c d fold p:=
 ⟨h.k.touch t (hP.not h.k (hl _ (by decide))),⟨h.l.b.touch t (hP.not h.l.b (hl _ (by decide))),ab h.l.o t (hP.own h.l.o (hl _ (by decide))),h.l.lt,nT h.l.sz t.size⟩,ab h.o t (hP.own h.o (hl _ (by decide))),ab h.f t (hP.own h.f (hl _ (by decide))),h.z,h.lt,h.ne,h.b0,h.g0,h.n⟩
theorem ah.touchT {D:Nat} {s:am} {V:bh} (h:ah w D n0 m s V) (t:aa P w w1) (hP:bZ w P l) (hl:∀x∈rl,x∉l):ah w1 D n0 m s V:=
 ⟨h.k.touch t (hP.not h.k (hl _ (by decide))),h.d,ab h.o t (hP.own h.o (hl _ (by decide))),⟨ab h.r.a t (hP.own h.r.a (hl _ (by decide))),ab h.r.t t (hP.own h.r.t (hl _ (by decide))),fun e=>(h.r.n e).touch t hP (hl _ (by decide)) (hl _ (by decide)) (hl _ (by decide)),fun e=>(h.r.l e).touch t hP (hl _ (by decide)) (hl _ (by decide)),h.r.u,h.r.f⟩⟩
structure bj (w:World) (n0:Nat) (kind:Int) (m:Lm) (s:fi) (V:oc):Prop where
 f:aj w n0 V.vf s.hd.fs
 t:aj w n0 V.vt s.trl
 p:s.d=none->aI w V.b V.g V.B V.vl V.va V.vp kind m.head m.fields m.line m.body m.fold s.p/\n0<=V.b/\n0<=V.g
 d:ql w n0 m V s.d
theorem aT.rest (h:aT w R n0 kind m s V):bj w n0 kind m s V:=⟨h.f,h.t,h.p,h.d⟩
theorem bj.at (h:bj w n0 kind m s V) (k:ac w R (fC kind m s V) 88) (r:n0<=R):aT w R n0 kind m s V:=⟨k,r,h.f,h.t,h.p,h.d⟩
theorem bj.touchT (h:bj w n0 kind m s V) (t:aa P w w1) (hP:bZ w P l) (hl:∀x∈rl,x∉l):bj w1 n0 kind m s V:=by
 refine⟨ab h.f t (hP.own h.f (hl _ (by decide))),ab h.t t (hP.own h.t (hl _ (by decide))),fun e=>⟨(h.p e).1.touchT t hP hl,(h.p e).2⟩,?_⟩;have hd:=h.d;cases e:s.d with
 | none=>rw[e] at hd;exact hd
 | some q=>rw[e] at hd;exact⟨hd.1,hd.2.1.touchT t hP hl,hd.2.2⟩
theorem tC (w:World):bZ w (fun _=>False) []:=fun _ h=>h.elim
theorem bj.call (h:bj w n0 kind m s V) (hb:Below w.heap.size w w1):bj w1 n0 kind m s V:=h.touchT (P:=fun _=>False) (aa.of_below hb) (tC w) (by decide)
theorem aT.call (h:aT w R n0 kind m s V) (hb:Below w.heap.size w w1):aT w1 R n0 kind m s V:=(h.rest.call hb).at (h.k.call hb) h.r
theorem aT.ofR (h:aT w R n0 kind m s V):bZ w (fun j=>j=R) [88]:=fun j e=>⟨_,_,by decide,e▸h.k⟩
theorem aT.write (h:aT w R n0 kind m s V) (t:aa (fun j=>j=R) w w1):bj w1 n0 kind m s V:=h.rest.touchT t h.ofR (by decide)
theorem dI {w:World} {B B':Nat} {e:TypeId} {size:Nat} {v:Value} {n:Nat} {xs:List Value} (h:w.ownsRow B e size v n xs) (hB:B'<=B):w.ownsRow B' e size v n xs:=by
 obtain⟨h1,h2⟩:=h;refine⟨h1,?_⟩;rcases h2 with h2|⟨g,cap,cur,hv,hg,rest⟩
 ·exact Or.inl h2
 ·exact Or.inr ⟨g,cap,cur,hv,nT hB hg,rest⟩
theorem Rw.to {W:World} {g:Nat} {cs cs':Array Value} {t:TypeId} (h:Rw W g cs t) (e:cs=cs'):Rw W g cs' t:=e▸h
theorem jT {W:World} {B g:Nat} {k n:Int} {t:ByteArray} (h:Rw W g #[.int .i64 k,.int .i64 n,.string t] 80) (hB:B<=g):aU W B (.slice (some ⟨g,0,none⟩) 1 1) [⟨k,n,t⟩]:=
 ⟨rfl,Or.inr ⟨g,1,_,rfl,hB,h.b,nR 1,by decide,rfl,rfl⟩⟩
theorem iP (h:aT w R n0 kind m s V) (e:Int):Calls Tryz.prog 40 #[.pointer (some ⟨R,0,none⟩),.int .i64 e] w fun x w'=>∃v,x=.returned v/\aT w' R n0 kind m { s with e:=e } V/\aU w' w.heap.size v [⟨5,e,⟨#[]⟩⟩]/\aa (fun j=>j=R) w w':=by
 have H:=lH h;have a0:Rw w R #[.string s.hd.m,.string s.hd.t,.int .i64 s.hd.k,.int .i64 s.hd.n,.string s.hd.r,V.vf,.int .i64 s.fk,.int .i64 s.fl,V.vt,.int .i64 kind,.int .i64 m.head,.int .i64 m.fields,.int .i64 m.line,.int .i64 m.body,.int .i64 m.fold,.string s.me,.pointer (some ⟨V.b,0,none⟩),V.vd,.bool s.ended,.int .i64 s.e] 88:=⟨h.k⟩;have a1:In R w:=⟨h.k.lt⟩;clear h;go_enter Tryz.func40,Tryz.ntmps40
 go_wp2_with fail
 go_ret;have t:aa (fun j=>j=R) w ((w.setCell ⟨R,19,none⟩ (.int .i64 e)).alloc (.cells #[.int .i64 5,.int .i64 e,.string ⟨#[]⟩] 80)):=((aa.refl (fun j=>j=R) w).setCell (p:=⟨R,19,none⟩) rfl _).alloc _;have q:=H.out.write t;exact⟨_,rfl,bj.at ⟨q.f,q.t,q.p,q.d⟩ (Rw.to (inferInstance:Rw _ R _ _) (by simp[fC])).b H.out.r,jT inferInstance (Nat.le_of_eq (by simp[World.setCell])),t⟩
end
end Go.Proofs.YthjbodpeckebiaaGreatDoor
-- RdrD
namespace Go.Proofs.YthjbodpeckebiaaGreatDoor
open Go.RowKit
section
variable {w:World} {R n0:Nat} {kind:Int} {m:Lm} {s:fi} {V:oc}
theorem aT.rw (h:aT w R n0 kind m s V):Rw w R #[.string s.hd.m,.string s.hd.t,.int .i64 s.hd.k,.int .i64 s.hd.n,.string s.hd.r,V.vf,.int .i64 s.fk,.int .i64 s.fl,V.vt,.int .i64 kind,.int .i64 m.head,.int .i64 m.fields,.int .i64 m.line,.int .i64 m.body,.int .i64 m.fold,.string s.me,.pointer (some ⟨V.b,0,none⟩),V.vd,.bool s.ended,.int .i64 s.e] 88:=⟨h.k⟩
theorem ng (kind a b c d e:Int) (h:(a<0\/65536<a)\/(kind≠1/\kind≠2)) (w:World):Calls Tryz.prog 28 #[.int .i64 kind,.agg #[.int .i64 a,.int .i64 b,.int .i64 c,.int .i64 d,.int .i64 e]] w fun x w'=>x=.returned (.pointer none)/\Below w.heap.size w w':=by
 have HN:=lH (mA kind a b c d e h);clear h;go_enter Tryz.func28,Tryz.ntmps28
 go_wp2_with (go_at_call 42;refine(HN.out _).mono ?_;rintro x1 w1 ⟨rfl,hb⟩;obtain⟨_,_,_,_,_⟩:=gP (w:=w) hb;clear hb)
 go_ret;exact⟨rfl,Ov.of⟩
theorem rp (kind:Int) (m:Lm) (h0:0<=m.head) (h1:m.head<=65536) (hk:kind=1\/kind=2) (w:World):Calls Tryz.prog 28 #[.int .i64 kind,.agg #[.int .i64 m.head,.int .i64 m.fields,.int .i64 m.line,.int .i64 m.body,.int .i64 m.fold]] w fun x w'=>∃R V,x=.returned (.pointer (some ⟨R,0,none⟩))/\aT w' R w.heap.size kind m (rP m.head) V/\Below w.heap.size w w':=by
 have HN:=lH (lr kind m.head m.fields m.line m.body m.fold h0 h1 hk);clear h0 h1 hk;go_enter Tryz.func28,Tryz.ntmps28
 go_wp2_with (go_at_call 42;refine(HN.out _).mono ?_;rintro x1 w1 ⟨rfl,hp,hb⟩;have HP:=lH hp;have HB:=lH hb;obtain⟨_,_,_,_,_⟩:=gP (w:=w) hb;clear hb hp)
 go_ret;have hz:=HB.out.size;simp only[World.size_alloc] at hz;have q:bj w1 w.heap.size kind m (rP m.head) ⟨aG,aG,w.heap.size+1+2,w.heap.size+1+1,w.heap.size+1+3,aG,aG,aG,.pointer none,0,⟨0,aG,aG,aG,aG,aG,aG⟩⟩:=⟨uz _ _ _ _,uz _ _ _ _,fun _=>⟨by have:=HP.out;simp only[World.size_alloc] at this;exact this,by show w.heap.size<=w.heap.size+1+2;omega,by show w.heap.size<=w.heap.size+1+1;omega⟩,rfl⟩;refine⟨w1.heap.size,_,rfl,(q.call ((tU _ _).alloc (nR _) _)).at ?_ (by omega),Ov.of⟩;exact(Rw.to (inferInstance:Rw _ w1.heap.size _ _) (by simp[fC,rP,cR,aG])).b
end
end Go.Proofs.YthjbodpeckebiaaGreatDoor
-- RdrE
namespace Go.Proofs.YthjbodpeckebiaaGreatDoor
open Go.RowKit
section
variable {w:World} {R n0:Nat} {kind:Int} {m:Lm} {s:fi} {V:oc}
theorem mH:(Tryz.prog.info? 46).map (·.size)=some 2:=by kernel_rfl
theorem rn (h:aT w R n0 kind m s V) (hk:kind=1\/kind=2) (H:Hd) (f:Value) (hf:bL w f H.fs) (ok:gk H.fs):Calls Tryz.prog 63 #[.pointer (some ⟨R,0,none⟩),.agg #[.string H.m,.string H.t,.int .i64 H.k,.int .i64 H.n,.string H.r,f]] w fun x w'=>∃a b er,x=.returned (.tuple #[.agg #[.int .i64 a,.int .i64 b],.int .i64 er])/\(er=(eC kind H s.me).2.2/\(er=0->a=(eC kind H s.me).1/\b=(eC kind H s.me).2.1))/\Below w.heap.size w w':=by
 have i1:=h.rw;have i2:In R w:=⟨h.k.lt⟩;have HQ:=lH fun W [o:Ov w W]=>iO H.m H.t H.r H.k H.n f H.fs W (hf.below o.b) ok;have HP:=lH fun W [o:Ov w W]=>kC H.m H.t H.r H.k H.n f H.fs s.me W (hf.below o.b) ok;obtain⟨Z,hZ⟩:∃Z,Z=eC kind H s.me:=⟨_,rfl⟩;rw[<-hZ];unfold eC at hZ;generalize nb H.fs H.k=q at *;generalize gy H.fs H.k H.n s.me=r at *;obtain⟨q1,q2,q3⟩:=q;obtain⟨r1,r2,r3⟩:=r;clear h hf ok;rcases hk with rfl|rfl
 ·rw[if_pos rfl] at hZ
  subst hZ;go_enter Tryz.func63,Tryz.ntmps63
  go_wp2_with (go_at_call 73;refine(HQ.out _).mono ?_;rintro x1 w1 ⟨rfl,hb⟩;obtain⟨_,_,_,_,_⟩:=gP (w:=w) hb;clear hb)
  exact ed Tryz.results63 rfl Tryz.underlying46 rfl (by kernel_rfl) rfl rfl ⟨_,_,_,rfl,⟨rfl,fun _=>⟨rfl,rfl⟩⟩,Ov.of⟩
 ·rw[if_neg (by decide)] at hZ
  replace hZ:=lH hZ;go_enter Tryz.func63,Tryz.ntmps63
  go_upto_region 3 with fail
  refine regB 5 9 _ _ #[.int .i64 0,.int .i64 0] 46 74 _ (fun v W W1=>v=.tuple #[.agg #[.int .i64 r1,.int .i64 r2],.int .i64 r3]) (by kernel_rfl) (by kernel_rfl) rfl rfl rfl rfl (by kernel_rfl) (fun _ _ d _ _ h=>by cases d<;>exact h) (fun _ _=>by go_simp) (fun W hW=>(have:=hW w;HP.out W).mono fun e w1 h=>⟨_,h.1,h.2,rfl⟩) fun⟨_,_,_,_,_,_⟩=>?_;simp only[uy,List.take_zero];repeat go_big_quiet_step (fail)
  refine uE ⟨fun s=>by go_simp,?_⟩;rintro v W W1 W2 g h rfl;obtain⟨_,_,_,_,_,_,_,_,_,_,_,_,_⟩:=h;simp only[uA,uy,List.take_zero,us,Act.put,lS,lZ,lC];repeat go_big_quiet_step (fail)
  refine uE ?_;with_reducible apply jh 46 (.tmp 6) mH
  ·exact rfl
  ·exact rfl
  ·exact inferInstance
  ·exact⟨rfl,rfl⟩
  ·kernel_rfl
  ·exact inS
  refine aX rfl rfl (by go_simp;rfl) ?_;simp only[Act.put,lS,lZ,lC,aB];by_cases e3:r3=0
  ·subst e3
   by_cases en:H.n=101
   ·rw[if_pos ⟨rfl,en⟩] at hZ
    obtain rfl:=hZ.out;have d1:(H.n==101)=true:=uB.2 en;clear en;go_wp2_with fail
    exact ed Tryz.results63 rfl Tryz.underlying46 rfl (by kernel_rfl) rfl rfl ⟨_,_,_,rfl,⟨rfl,fun e=>absurd e (by decide)⟩,Ov.of⟩
   ·rw[if_neg (fun h=>en h.2)] at hZ
    obtain rfl:=hZ.out;have d1:(H.n==101)=false:=tT.2 en;clear en;go_wp2_with fail
    exact ed Tryz.results63 rfl Tryz.underlying46 rfl (by kernel_rfl) rfl rfl ⟨_,_,_,rfl,⟨rfl,fun _=>⟨rfl,rfl⟩⟩,Ov.of⟩
  ·rw[if_neg (fun h=>e3 h.1)] at hZ
   obtain rfl:=hZ.out;have d1:(r3==0)=false:=tT.2 e3;clear e3;go_wp2_with fail
   exact ed Tryz.results63 rfl Tryz.underlying46 rfl (by kernel_rfl) rfl rfl ⟨_,_,_,rfl,⟨rfl,fun _=>⟨rfl,rfl⟩⟩,Ov.of⟩
end
end Go.Proofs.YthjbodpeckebiaaGreatDoor
-- RdrF
namespace Go.Proofs.YthjbodpeckebiaaGreatDoor
open Go.RowKit
def dX (R:Nat) (kind:Int) (m:Lm) (U:World):Prop:=U.cell? ⟨R,9,none⟩=some (.int .i64 kind)/\U.cell? ⟨R,10,none⟩=some (.int .i64 m.head)/\U.cell? ⟨R,11,none⟩=some (.int .i64 m.fields)/\U.cell? ⟨R,12,none⟩=some (.int .i64 m.line)/\U.cell? ⟨R,13,none⟩=some (.int .i64 m.body)/\U.cell? ⟨R,14,none⟩=some (.int .i64 m.fold)
theorem iN {U:World} {R:Nat} {kind:Int} {m:Lm} {x0 x1 x2 x3 x4 x5 x6 x7 x8 y0 y1 y2 y3 y4:Value} {t:TypeId} (h:Rw U R #[x0,x1,x2,x3,x4,x5,x6,x7,x8,.int .i64 kind,.int .i64 m.head,.int .i64 m.fields,.int .i64 m.line,.int .i64 m.body,.int .i64 m.fold,y0,y1,y2,y3,y4] t):dX R kind m U:=⟨h.b.cell 9,h.b.cell 10,h.b.cell 11,h.b.cell 12,h.b.cell 13,h.b.cell 14⟩
theorem sw {s:fi} (h:iW s=2):s.e=0:=by
 unfold iW at h;split at h
 ·cases h
 ·rename_i he;simpa using he
theorem pH (s:fi):iW s=0\/iW s=1\/iW s=2\/iW s=3:=by unfold iW;(repeat' split)<;>simp
section
variable {w:World} {R n0:Nat} {kind:Int} {m:Lm} {s:fi} {V:oc}
theorem m9 (h:aT w R n0 kind m s V) (h0:0<=m.head) (h1:m.head<=65536) (hk:kind=1\/kind=2) (me:ByteArray):Calls Tryz.prog 23 #[.pointer (some ⟨R,0,none⟩),.string me] w fun x w'=>x=.returned (.bool (eT m.head me s).2)/\(∃V',aT w' R n0 kind m (eT m.head me s).1 V')/\aa (fun j=>j=R) w w':=by
 have i1:=h.rw;have i2:In R w:=⟨h.k.lt⟩;have HS:=lH (cP h);have HN:=lH (lr kind m.head m.fields m.line m.body m.fold h0 h1 hk);have H:=lH h;have hz:=h.k.lt;unfold eT;clear h h0 h1 hk;rcases pH s with hs|hs|hs|hs<;>rw[hs] at HS ⊢
 rotate_left 2
 ·rw[if_pos rfl]
  go_enter Tryz.func23,Tryz.ntmps23
  go_upto_region 4 with (go_at_call 18;refine HS.out.mono ?_;rintro x1 w1 ⟨rfl,rfl⟩)
  refine bV 4 ?_;intro W hW;have t3:Tg R w W:=hW▸inferInstance;have k3:Rw W R #[.string ⟨#[]⟩,.string ⟨#[]⟩,.int .i64 0,.int .i64 0,.string ⟨#[]⟩,.slice none 0 0,.int .i64 0,.int .i64 0,.slice none 0 0,.int .i64 kind,.int .i64 m.head,.int .i64 m.fields,.int .i64 m.line,.int .i64 m.body,.int .i64 m.fold,.string s.me,.pointer (some ⟨V.b,0,none⟩),.pointer none,.bool false,.int .i64 s.e] 88:=hW▸(Rw.to (inferInstance:Rw _ R _ _) (by simp));have k4:In R W:=⟨k3.b.lt⟩;have hsz:w.heap.size<=W.heap.size:=t3.t.size;clear hW i1 HS i2;have c9:∀s:Cl (dX R kind m),s.val.cell? ⟨R,9,none⟩=some (.int .i64 kind):=fun s=>s.ok.1;have c10:∀s:Cl (dX R kind m),s.val.cell? ⟨R,10,none⟩=some (.int .i64 m.head):=fun s=>s.ok.2.1;have c11:∀s:Cl (dX R kind m),s.val.cell? ⟨R,11,none⟩=some (.int .i64 m.fields):=fun s=>s.ok.2.2.1;have c12:∀s:Cl (dX R kind m),s.val.cell? ⟨R,12,none⟩=some (.int .i64 m.line):=fun s=>s.ok.2.2.2.1;have c13:∀s:Cl (dX R kind m),s.val.cell? ⟨R,13,none⟩=some (.int .i64 m.body):=fun s=>s.ok.2.2.2.2.1;have c14:∀s:Cl (dX R kind m),s.val.cell? ⟨R,14,none⟩=some (.int .i64 m.fold):=fun s=>s.ok.2.2.2.2.2;have ne:Nonempty (Cl (dX R kind m)):=⟨⟨W,iN k3⟩⟩;refine regW (dX R kind m) 9 (by kernel_rfl) (by kernel_rfl) (fun _ _ d _ _ h=>by cases d<;>exact h) (iN (inferInstance:Rw W.drew R _ _)) ?_;simp only[uy,List.take_zero]
  repeat go_big_quiet_step (fail)
  refine uE ?_;simp only[uA,us];refine j2 rfl rfl (by go_simp) ((HN.out _).mono ?_);rintro x1 w1 ⟨rfl,hp,hb⟩;obtain⟨_,_,_,_,_⟩:=gP (w:=W) hb;have hz1:W.heap.size<=w1.heap.size:=hb.size;refine⟨_,rfl,⟨⟨w1,iN (inferInstance:Rw w1 R _ _)⟩,rfl⟩,?_⟩;simp only[Act.put,lS,lZ,lC];refine aX rfl rfl (by go_simp;rfl) ?_;simp only[Act.put,lS,lZ,lC];refine aX rfl rfl (by go_simp;rfl) ?_;simp only[Act.put,lS,lZ,lC];refine eA rfl rfl ?_;go_simp;refine⟨⟨⟨_,iN (Rw.to (inferInstance:Rw (w1.setCell ⟨R,16,none⟩ (.pointer (some ⟨W.heap.size+2,0,none⟩))) R _ _) (by simp;repeat (first|exact rfl|refine⟨rfl,?_⟩)))⟩,rfl⟩,?_⟩;simp only[aB];have kw:Rw w1 R _ _:=inferInstance;go_wp2_with fail
  go_ret;have tt:aa (fun j=>j=R) w1 ((w1.setCell ⟨R,16,none⟩ (.pointer (some ⟨W.heap.size+2,0,none⟩))).setCell ⟨R,15,none⟩ (.string me)):=((aa.refl (fun j=>j=R) w1).setCell (p:=⟨R,16,none⟩) rfl _).setCell (p:=⟨R,15,none⟩) rfl _;have hof:bZ w1 (fun j=>j=R) [88]:=fun j e=>⟨_,_,by decide,e▸kw.b⟩;refine⟨rfl,⟨⟨aG,aG,W.heap.size+2,W.heap.size+1,W.heap.size+3,aG,aG,aG,.pointer none,0,⟨0,aG,aG,aG,aG,aG,aG⟩⟩,bj.at ⟨uz _ _ _ _,uz _ _ _ _,fun _=>⟨aI.touchT hp tt hof (by decide),?_,?_⟩,rfl⟩ ?_ H.out.r⟩,(t3.t.trans (aa.of_below ⟨hb.os,hb.tape,hb.output,hb.size,hb.block⟩)).trans tt⟩
  ·have:=H.out.r
   show n0<=W.heap.size+2;omega
  ·have:=H.out.r
   show n0<=W.heap.size+1;omega
  ·exact(Rw.to (inferInstance:Rw _ R _ _) (by simp[fC,rP,cR,aG,sw hs])).b
 ·rw[if_neg (by decide),if_neg (by decide)]
  go_enter Tryz.func23,Tryz.ntmps23
  go_wp2_with (go_at_call 18;refine HS.out.mono ?_;rintro x1 w1 ⟨rfl,rfl⟩)
  go_ret;exact⟨rfl,⟨V,H.out⟩,aa.refl _ _⟩
 ·rw[if_neg (by decide),if_pos rfl]
  go_enter Tryz.func23,Tryz.ntmps23
  go_wp2_with (go_at_call 18;refine HS.out.mono ?_;rintro x1 w1 ⟨rfl,rfl⟩)
  go_ret;have tt:aa (fun j=>j=R) w (w.setCell ⟨R,15,none⟩ (.string me)):=(aa.refl (fun j=>j=R) w).setCell (p:=⟨R,15,none⟩) rfl _;have q:=H.out.write tt;exact⟨rfl,⟨V,bj.at ⟨q.f,q.t,q.p,q.d⟩ (Rw.to (inferInstance:Rw _ R _ _) (by simp[fC])).b H.out.r⟩,tt⟩
 ·rw[if_neg (by decide),if_neg (by decide)]
  go_enter Tryz.func23,Tryz.ntmps23
  go_wp2_with (go_at_call 18;refine HS.out.mono ?_;rintro x1 w1 ⟨rfl,rfl⟩)
  go_ret;exact⟨rfl,⟨V,H.out⟩,aa.refl _ _⟩
end
end Go.Proofs.YthjbodpeckebiaaGreatDoor
-- RdrG
namespace Go.Proofs.YthjbodpeckebiaaGreatDoor
open Go.RowKit
section
variable {w w1:World} {R n0:Nat} {kind:Int} {m:Lm} {s:fi} {V:oc}
theorem pP (h:aT w R n0 kind m s V) (q:am) (hd:s.d=some q) (l:Value):Calls Tryz.prog 39 #[.pointer (some ⟨R,0,none⟩),l] w fun x w'=>x=.returned l/\(∃vt,aT w' R n0 kind m { s with e:=q.e,ended:=q.over,trl:=if q.over=true then q.tr else s.trl } { V with vt:=vt })/\aa (fun j=>j=R) w w':=by
 obtain⟨hh,fk,fl,trl,me,p,d,ended,e⟩:=s;obtain rfl:d=some q:=hd;obtain⟨vf,vt,b,g,B,vl,va,vp,vd,D,V⟩:=V;obtain⟨hv,hb,hq,hl⟩:=h.d;obtain rfl:vd=.pointer (some ⟨D,0,none⟩):=hv;have i1:=h.rw;have i2:In R w:=⟨h.k.lt⟩;have H:=lH h;have HB:=lH hb;have HE:Hid (∀W,ac W D (cy m q V) 117->Calls Tryz.prog 53 #[.pointer (some ⟨D,0,none⟩)] W fun x w'=>x=.returned (.int .i64 q.e)/\W=w'):=fun W hW=>qA hW;have HO:Hid (∀W,ac W D (cy m q V) 117->Calls Tryz.prog 54 #[.pointer (some ⟨D,0,none⟩)] W fun x w'=>x=.returned (.bool q.over)/\W=w'):=fun W hW=>jo hW;have HT:Hid (∀W,ah W D n0 m q V->Calls Tryz.prog 55 #[.pointer (some ⟨D,0,none⟩)] W fun x w'=>∃v,x=.returned v/\aj w' W.heap.size v (if q.over=true then q.tr else [])/\Below W.heap.size W w'):=fun W hW=>iZ hW (by have:=hq.tr;omega);have hsz:=h.k.lt;have hr:=h.r;have T1:aa (fun j=>j=R) w (w.setCell ⟨R,19,none⟩ (.int .i64 q.e)):=(aa.refl (fun j=>j=R) w).setCell (p:=⟨R,19,none⟩) rfl _;have T2:aa (fun j=>j=R) w ((w.setCell ⟨R,19,none⟩ (.int .i64 q.e)).setCell ⟨R,18,none⟩ (.bool q.over)):=T1.setCell (p:=⟨R,18,none⟩) rfl _;have B1:=lH (hb.touchT T1 h.ofR (by decide));have B2:=lH (hb.touchT T2 h.ofR (by decide));replace T2:=lH T2;have Q:=lH (h.write T2.out);clear h hb hq hl T1;cases ho:q.over<;>rw[ho] at HO T2 B2 Q HT
 ·go_enter Tryz.func39,Tryz.ntmps39
  go_wp2_with (first
   | (go_at_call 53;refine(HE.out _ HB.out.k).mono ?_;rintro x1 w1 ⟨rfl,rfl⟩)
   | (go_at_call 54;refine(HO.out _ B1.out.k).mono ?_;rintro x1 w1 ⟨rfl,rfl⟩))
  go_ret;exact⟨rfl,⟨vt,bj.at ⟨Q.out.f,Q.out.t,(fun e=>by cases e),Q.out.d⟩ (Rw.to (inferInstance:Rw _ R _ _) (by simp[fC])).b H.out.r⟩,T2.out⟩
 ·go_enter Tryz.func39,Tryz.ntmps39
  go_wp2_with (first
   | (go_at_call 53;refine(HE.out _ HB.out.k).mono ?_;rintro x1 w1 ⟨rfl,rfl⟩)
   | (go_at_call 54;refine(HO.out _ B1.out.k).mono ?_;rintro x1 w1 ⟨rfl,rfl⟩)
   | (go_at_call 55;refine(HT.out _ B2.out).mono ?_;rintro x1 w1 ⟨v,rfl,hf,hb⟩;obtain⟨pv,cv,rfl⟩:=aV hf;have HF:=lH hf;obtain⟨_,_,_,_,_⟩:=gP (w:=(w.setCell ⟨R,19,none⟩ (.int .i64 q.e)).setCell ⟨R,18,none⟩ (.bool true)) hb;have HBB:=lH hb;clear hb hf))
  go_ret;have kw:Rw w1 R _ _:=inferInstance;have Q1:=Q.out.call HBB.out;have tt:aa (fun j=>j=R) w1 (w1.setCell ⟨R,8,none⟩ (.slice pv q.tr.length cv)):=(aa.refl (fun j=>j=R) w1).setCell (p:=⟨R,8,none⟩) rfl _;have hof:bZ w1 (fun j=>j=R) [88]:=fun j e=>⟨_,_,by decide,e▸kw.b⟩;have Q2:=Q1.touchT tt hof (by decide);have hs2:=T2.out.size;exact⟨rfl,⟨.slice pv q.tr.length cv,bj.at ⟨Q2.f,dI (ab HF.out tt (hof.own HF.out (by decide))) (nT (Nat.le_of_lt (Nat.lt_of_le_of_lt hr hsz)) hs2),(fun e=>by cases e),Q2.d⟩ (Rw.to (inferInstance:Rw _ R _ _) (by simp[fC])).b H.out.r⟩,(T2.out.trans (aa.of_below HBB.out)).trans tt⟩
end
end Go.Proofs.YthjbodpeckebiaaGreatDoor
-- RdrH
namespace Go.Proofs.YthjbodpeckebiaaGreatDoor
open Go.RowKit
section
variable {w w1:World} {R n0:Nat} {kind:Int} {m:Lm} {s:fi} {V:oc}
theorem kL.ofR (h:aT w R n0 kind m s V) {w1:World} (t:aa (fun j=>j=R) w w1):aa (kL w n0 sZ) w w1:=t.mono fun _ _ e=>e▸⟨h.r,_,_,h.k,by decide⟩
theorem aT.dec {q q':am} (h:aT w R n0 kind m s V) (hd:s.d=some q) {V':bh} (hb:ah w1 V.D n0 m q' V') (g:ap w w1 V.D V.V V') (hq:bi m q') (hl:q'.out.length<=1000):aT w1 R n0 kind m { s with d:=some q' } { V with V:=V' }/\aa (kL w n0 sZ) w w1:=by
 have h1:=h.d;rw[hd] at h1;obtain⟨hv,hb0,-,-⟩:=h1
 have hP:bZ w (fS V.D V.V) [117,80,9,136,5]:=fun j hj=>by
  obtain⟨_,cs,t,hb,_,hm⟩:=hb0.ty hj;exact⟨cs,t,hm,hb⟩
 refine⟨⟨h.k.touch g.t (hP.not h.k (by decide)),h.r,ab h.f g.t (hP.own h.f (by decide)),ab h.t g.t (hP.own h.t (by decide)),(fun e=>by cases e),hv,hb,hq,hl⟩,g.t.mono fun j _ hj=>?_⟩;obtain⟨h1,cs,t,hb,_,hm⟩:=hb0.ty hj;exact⟨h1,cs,t,hb,(by decide:∀t∈[117,80,9,136,5],t∈sZ) t hm⟩
theorem pK (h:aT w R n0 kind m s V) {q:am} (hd:s.d=some q) (hst:iW s<2) (hn0:0<n0) {mx:Int} (hmx:w.cell? ⟨0,0,none⟩=some (.int .i64 mx)) (S:ByteArray) (hS:S.size<=100000):
 Calls Tryz.prog 21 #[.pointer (some ⟨R,0,none⟩),.string S] w fun x w'=>∃vo,x=.returned (.tuple #[.int .i64 ((dO m q S.data.toList).2:Nat),vo])/\((∃V',aT w' R n0 kind m (sY s (dO m q S.data.toList).1) V')/\aU w' n0 vo (dO m q S.data.toList).1.out/\aa (kL w n0 sZ) w w'/\∀j cs,ac w j cs 80->V.V.vo.ownBlock≠some j->ac w' j cs 80):=by
 have HS:=lH (cP h);have hdd:decide (2<=iW s)=false:=dF (by omega);have h1:=h.d;rw[hd] at h1;obtain⟨hv,hb0,hq,hl⟩:=h1;have i1:=h.rw;rw[hv] at i1;have HF:=lH (oh hb0 hq hl hn0 hmx S hS);have HB0:=lH hb0;generalize dO m q S.data.toList=r at *;obtain⟨q',n⟩:=r;have H:=lH h;have HD:=lH hd;generalize iW s=z at *;clear h hst hd hb0 hq hl hmx hS;go_enter Tryz.func21,Tryz.ntmps21
 go_wp2_with (first
  | (go_at_call 18;refine HS.out.mono ?_;rintro x1 w1 ⟨rfl,rfl⟩)
  | (go_at_call 38;refine HF.out.mono ?_;rintro x1 w1 ⟨vo,V',rfl,hb,ho,hg,_,hk,_⟩;have D1:=lH (H.out.dec HD.out hb hg hk (by show (0:Nat)<=1000;omega));have HO:=lH ho;have HG:=lH fun j cs (hj:ac w j cs 80) hn=>hj.touch hg.t (HB0.out.farPc hj hn);clear hb ho hg hk)
  | (go_at_call 39;refine(pP D1.out.1 (jn q') rfl _).mono ?_;rintro x2 w2 ⟨rfl,⟨vt,hr⟩,ht⟩;have D2:=lH hr;have T2:=lH ht;clear hr ht))
 go_ret2
 exact⟨_,rfl,⟨_,D2.out⟩,ab HO.out T2.out (D1.out.1.ofR.own HO.out (by decide)),fM D1.out.2 (kL.ofR D1.out.1 T2.out),fun j cs hj hn=>(HG.out j cs hj hn).touch T2.out (D1.out.1.ofR.not (HG.out j cs hj hn) (by decide))⟩
end
end Go.Proofs.YthjbodpeckebiaaGreatDoor
-- RdrI
namespace Go.Proofs.YthjbodpeckebiaaGreatDoor
open Go.RowKit
section
variable {w w1:World} {R n0:Nat} {kind:Int} {m:Lm} {s:fi} {V:oc}
theorem aT.par {p':cY} (h:aT w R n0 kind m s V) (hd:s.d=none) {vl va vp:Value} (hp:aI w1 V.b V.g V.B vl va vp kind m.head m.fields m.line m.body m.fold p') (t:aa (mc V.b V.g V.vl V.va) w w1):aT w1 R n0 kind m { s with p:=p' } { V with vl:=vl,va:=va,vp:=vp }/\aa (kL w n0 sZ) w w1:=by
 obtain⟨h0,hb,hg⟩:=h.p hd;have hlt:=h0.lt
 have hj:∀j,mc V.b V.g V.vl V.va j->n0<=j/\∃cs t,ac w j cs t/\t∈[114,136,5,9]:=fun j hj=>by
  rcases hj with rfl|rfl|hj|hj
  ·exact⟨hb,_,_,h0.k,by decide⟩
  ·exact⟨hg,_,_,h0.l.b,by decide⟩
  ·obtain⟨h1,cs,h2⟩:=aN h0.l.o j hj
   exact⟨by omega,cs,_,h2,by decide⟩
  ·obtain⟨h1,cs,h2⟩:=aN h0.o j hj
   exact⟨by omega,cs,_,h2,by decide⟩
 have hP:bZ w (mc V.b V.g V.vl V.va) [114,136,5,9]:=fun j e=>by
  obtain⟨_,cs,t,hb,hm⟩:=hj j e;exact⟨cs,t,hm,hb⟩
 have hdd:=h.d;rw[hd] at hdd;refine⟨⟨h.k.touch t (hP.not h.k (by decide)),h.r,ab h.f t (hP.own h.f (by decide)),ab h.t t (hP.own h.t (by decide)),fun _=>⟨hp,hb,hg⟩,?_⟩,t.mono fun j _ e=>?_⟩
 ·show ql w1 n0 m _ s.d
  rw[hd];exact hdd
 ·obtain⟨h1,cs,t,hb,hm⟩:=hj j e
  exact⟨h1,cs,t,hb,(by decide:∀t∈[114,136,5,9],t∈sZ) t hm⟩
theorem ah.lower {D B:Nat} {q:am} {V:bh} (h:ah w D B m q V) (hB:n0<=B):ah w D n0 m q V:=
 ⟨h.k,nT hB h.d,dI h.o hB,⟨dI h.r.a hB,dI h.r.t hB,h.r.n,fun e=>⟨(h.r.l e).p,nT hB (h.r.l e).n,(h.r.l e).l⟩,h.r.u,h.r.f⟩⟩
theorem qx (m:Lm) (k l:Int):(aZ m k l).out.length<=1:=by
 unfold aZ;simp only;(repeat' split)<;>simp[am.wrong,am.put,am.ends]
theorem na {U:World} {R:Nat} {kind:Int} {m:Lm} {cs:Array Value} {t:TypeId} (h:Rw U R cs t) (e:cs[9]? = some (.int .i64 kind)/\cs[10]? = some (.int .i64 m.head)/\cs[11]? = some (.int .i64 m.fields)/\cs[12]? = some (.int .i64 m.line)/\cs[13]? = some (.int .i64 m.body)/\cs[14]? = some (.int .i64 m.fold)):dX R kind m U:=
 ⟨(h.b.cell 9).trans e.1,(h.b.cell 10).trans e.2.1,(h.b.cell 11).trans e.2.2.1,(h.b.cell 12).trans e.2.2.2.1,(h.b.cell 13).trans e.2.2.2.2.1,(h.b.cell 14).trans e.2.2.2.2.2⟩
theorem j3 {P:Program} {ops:Array Oper} {Q:Exit->Act->World->Prop} {S:World->Prop} {l:List Oper} {a:Act} {w:World} (h:∀w',w'=w->aB P ops Q S l a w'):aB P ops Q S l a w:=h w rfl
def ta (R:Nat) (kind:Int) (m:Lm) (g:Nat) (c0 c1 c2 c3 c4 c5:Value) (g':Nat) (a b:Int) (U:World):Prop:=dX R kind m U/\Rw U g #[c0,c1,c2,c3,c4,c5] 44/\Rw U g' #[.int .i64 a,.int .i64 b] 46
theorem rq (h:aT w R n0 kind m s V) (hd:s.d=none) (hk:kind=1\/kind=2) (hpb:gK s.p) (hfi:-9223372036854775808<=m.fields/\m.fields<=9223372036854775807) (hn0:0<n0) {mx:Int} (hmx:w.cell? ⟨0,0,none⟩=some (.int .i64 mx)) (S:ByteArray) (hS:S.size<=1000000) (P:cY×Nat) (hP:P=cC kind m.fields m.fold S.data.toList s.p) (hok:P.1.fin=true->gk P.1.hd.fs):
 Calls Tryz.prog 37 #[.pointer (some ⟨R,0,none⟩),.string S] w fun x w'=>∃vo,x=.returned (.tuple #[.int .i64 (P.2:Int),vo])/\((∃V',aT w' R n0 kind m (kz kind m s P).1 V'/\((kz kind m s P).1.d.isSome=true->∀j,vo.ownBlock=some j->V'.V.vo.ownBlock≠some j))/\gK P.1/\aU w' n0 vo (kz kind m s P).2.2/\aa (kL w n0 sZ) w w'):=by
 have HF:=lH (py (h.p hd).1 hpb hfi hmx S hS);rw[<-hP] at HF;obtain⟨⟨ln,all,fin,⟨hm,ht,hkk,hn,hr,hfs⟩,e⟩,n⟩:=P;have i1:=h.rw;have H:=lH h;have HD:=lH hd;have HK:=lH hk;have hrz:=Nat.le_of_lt h.k.lt;have hr0:=h.r;unfold kz;simp only at HF hok ⊢;clear h hd hk hpb hfi hmx hS hP;by_cases he:e=0
 ·subst he
  rw[if_neg (by simp)]
  have HDn:Hid (∀W V,aT W R n0 kind m { s with p:=⟨ln,all,fin,⟨hm,ht,hkk,hn,hr,hfs⟩,0⟩ } V->Calls Tryz.prog 48 #[.pointer (some ⟨V.b,0,none⟩)] W fun x w'=>x=.returned (.bool fin)/\W=w'):=fun W V hW=>by
   have:=jG (hW.p HD.out).1;simpa using this
  cases fin
  ·rw[if_pos rfl]
   clear hok;go_enter Tryz.func37,Tryz.ntmps37
   go_wp2_with (first
    | (go_at_call 47;refine HF.out.mono ?_;rintro x1 w1 ⟨rfl,vl,va,vp,hp,hbd,ht,-,-⟩;have D1:=lH (H.out.par HD.out hp ht);have BD:=lH hbd;have i2:=D1.out.1.rw;have hz:=ht.size;clear hp ht hbd)
    | (go_at_call 48;refine(HDn.out _ _ D1.out.1).mono ?_;rintro x2 w2 ⟨rfl,rfl⟩))
   go_ret2
   exact⟨_,rfl,⟨_,D1.out.1,fun e=>absurd e (by simp[HD.out])⟩,BD.out,aU.start _ _,D1.out.2⟩
  ·rw[if_neg (by simp)]
   obtain⟨F,hF⟩:∃F,F=eC kind ⟨hm,ht,hkk,hn,hr,hfs⟩ s.me:=⟨_,rfl⟩;have HFL:=lH (qO kind ⟨hm,ht,hkk,hn,hr,hfs⟩ s.me);rw[<-hF] at HFL ⊢;have HFE:=lH hF;obtain⟨fa,fb,fe⟩:=F;obtain⟨Z,hZ⟩:∃Z:fi×Nat×List Pc,Z=(if fe≠0 then ((dK { s with p:=⟨ln,all,true,⟨hm,ht,hkk,hn,hr,hfs⟩,0⟩ } fe).1,n,(dK { s with p:=⟨ln,all,true,⟨hm,ht,hkk,hn,hr,hfs⟩,0⟩ } fe).2) else ({ s with p:=⟨ln,all,true,⟨hm,ht,hkk,hn,hr,hfs⟩,0⟩,hd:=⟨hm,ht,hkk,hn,hr,hfs⟩,fk:=fa,fl:=fb,d:=some (aZ m fa fb) },n,[⟨1,0,⟨#[]⟩⟩])):=⟨_,rfl⟩;rw[<-hZ];have HZ:=lH hZ;have HOK:=lH (hok rfl);clear hF hZ hok
   have HH:Hid (∀W V,aT W R n0 kind m { s with p:=⟨ln,all,true,⟨hm,ht,hkk,hn,hr,hfs⟩,0⟩ } V->Calls Tryz.prog 49 #[.pointer (some ⟨V.b,0,none⟩)] W fun x w'=>∃pf cf,x=.returned (.agg #[.string hm,.string ht,.int .i64 hkk,.int .i64 hn,.string hr,.slice pf hfs.length cf])/\aj w' W.heap.size (.slice pf hfs.length cf) hfs/\Below W.heap.size W w'):=fun W V hW=>by
    refine(oV (hW.p HD.out).1 (by have:=HOK.out.len;show hfs.length<=_;omega)).mono ?_;rintro x w' ⟨f,rfl,hf,hb⟩;have hf:aj w' W.heap.size f hfs:=hf;obtain⟨pf,cf,rfl⟩:=aV hf;exact⟨pf,cf,rfl,hf,hb⟩
   go_enter Tryz.func37,Tryz.ntmps37
   go_upto_region 10 with (first
    | (go_at_call 47;refine HF.out.mono ?_;rintro x1 w1 ⟨rfl,vl,va,vp,hp,hbd,ht,-,-⟩;have D1:=lH (H.out.par HD.out hp ht);have BD:=lH hbd;have i2:=D1.out.1.rw;have i3:In R w1:=⟨D1.out.1.k.lt⟩;have hz:=ht.size;clear hp ht hbd)
    | (go_at_call 48;refine(HDn.out _ _ D1.out.1).mono ?_;rintro x2 w2 ⟨rfl,rfl⟩)
    | (go_at_call 49;refine(HH.out _ _ D1.out.1).mono ?_;rintro x2 w2 ⟨pf,cf,rfl,hf,hb⟩;have HOF:=lH hf;have HFR:=lH fun W [o:Ov w1 W] [o':Ov w2 W]=>rn (D1.out.1.call o.b) HK.out ⟨hm,ht,hkk,hn,hr,hfs⟩ (.slice pf hfs.length cf) (hf.flds.below o'.b) HOK.out;rw[<-HFE.out] at HFR;have hz2:=hb.size;obtain⟨_,_,_,_,_⟩:=gP (w:=w1) hb;clear hb hf)
    | (go_at_call 63;refine(HFR.out _).mono ?_;rintro x3 w3 ⟨a,b,er,rfl,hr3,hb⟩;have HR3:=lH hr3;have HW:=lH fun W [o:Ov w1 W]=>iP (D1.out.1.call o.b) er;obtain⟨_,_,_,_,_⟩:=gP (w:=w1) hb;have _:=(gP (w:=w2) hb).1;clear hb hr3)
    | (go_at_call 40;refine(HW.out _).mono ?_;rintro x4 w4 ⟨v,rfl,hr,ho,ht⟩;have D2:=lH hr;have HO:=lH ho;have T2:=lH ht;clear hr ho ht))
   all_goals first
    | (
     obtain rfl:er=fe:=HR3.out.1;have hne:er≠0:=by simpa using ‹(er != 0)=true›
     obtain rfl:=HZ.out.trans (if_pos hne);go_ret2
     exact⟨_,rfl,⟨_,D2.out,fun e=>absurd e (by simp[dK,HD.out])⟩,BD.out,dI HO.out (nT (nT (nT hr0 hrz) hz) (Ov.of (w:=w1)).size),fM D1.out.2 (kL.ofR D1.out.1 ((aa.of_below (Ov.of (w:=w1))).trans T2.out))⟩)
    | skip
   obtain rfl:er=0:=by simpa using ‹(er != 0)=false›
   obtain rfl:0=fe:=HR3.out.1;obtain⟨rfl,rfl⟩:=HR3.out.2 rfl;obtain rfl:=HZ.out.trans (if_neg (by simp));refine bV 10 ?_;intro W hW;have oW:Ov w1 W:=hW▸inferInstance;have o2:Ov w2 W:=hW▸inferInstance;have kR:Rw W R #[.string s.hd.m,.string s.hd.t,.int .i64 s.hd.k,.int .i64 s.hd.n,.string s.hd.r,V.vf,.int .i64 s.fk,.int .i64 s.fl,V.vt,.int .i64 kind,.int .i64 m.head,.int .i64 m.fields,.int .i64 m.line,.int .i64 m.body,.int .i64 m.fold,.string s.me,.pointer (some ⟨V.b,0,none⟩),V.vd,.bool s.ended,.int .i64 s.e] 88:=hW▸inferInstance;have k8:Rw W w2.heap.size #[.string hm,.string ht,.int .i64 hkk,.int .i64 hn,.string hr,.slice pf hfs.length cf] 44:=hW▸inferInstance;have k9:Rw W w3.heap.size #[.int .i64 a,.int .i64 b] 46:=hW▸inferInstance;have iR:In R W:=⟨kR.b.lt⟩;have hzw:w1.heap.size<=W.heap.size:=oW.b.size
   have hv:V.vd=.pointer none:=by
    have:=H.out.d;rw[HD.out] at this;exact this
   have h82:In R w2:=inferInstance;have h83:In R w3:=inferInstance;have d8:Df w2.heap.size R:=inferInstance;have d9:Df w3.heap.size R:=inferInstance;clear hW HF HDn HH HFR HW i1 i2;obtain⟨I,hI⟩:∃I,I=ta R kind m w2.heap.size (.string hm) (.string ht) (.int .i64 hkk) (.int .i64 hn) (.string hr) (.slice pf hfs.length cf) w3.heap.size a b:=⟨_,rfl⟩;have toI:∀U,ta R kind m w2.heap.size (.string hm) (.string ht) (.int .i64 hkk) (.int .i64 hn) (.string hr) (.slice pf hfs.length cf) w3.heap.size a b U->I U:=fun U h=>hI▸h;have ofI:∀s:Cl I,ta R kind m w2.heap.size (.string hm) (.string ht) (.int .i64 hkk) (.int .i64 hn) (.string hr) (.slice pf hfs.length cf) w3.heap.size a b s.val:=fun s=>hI▸s.ok;clear hI;have c9:=fun s=>(ofI s).1.1;have c10:=fun s=>(ofI s).1.2.1;have c11:=fun s=>(ofI s).1.2.2.1;have c12:=fun s=>(ofI s).1.2.2.2.1;have c13:=fun s=>(ofI s).1.2.2.2.2.1;have c14:=fun s=>(ofI s).1.2.2.2.2.2;have r8:=fun s=>(ofI s).2.1;have r9:=fun s=>(ofI s).2.2;have ne:Nonempty (Cl I):=⟨⟨W,toI _ ⟨iN kR,k8,k9⟩⟩⟩;replace ofI:=lH ofI;replace toI:=lH toI;refine regW I 10 (by kernel_rfl) (by kernel_rfl) (fun _ _ d _ _ h=>by cases d<;>exact h) (toI.out _ ⟨iN (inferInstance:Rw W.drew R _ _),inferInstance,inferInstance⟩) ?_;simp only[uy,List.take_zero];repeat go_big_quiet_step (fail)
   refine uE ?_;clear c9 c10 c11 c12 c13 c14 r8 r9;simp only[uA,us];refine j2 rfl rfl (by go_simp) ((qE m a b _).mono ?_);rintro x4 w4 ⟨D,VD,rfl,hbd,hb⟩;obtain⟨_,_,_,_,_⟩:=gP (w:=W) hb;have HBD:=lH hbd;have HBB:=lH hb;clear hbd hb;refine⟨_,rfl,⟨⟨w4,toI.out _ ⟨iN (inferInstance:Rw w4 R _ _),inferInstance,inferInstance⟩⟩,rfl⟩,?_⟩;simp only[Act.put,lS,lZ,lC];refine aX rfl rfl (by go_simp;rfl) ?_;simp only[Act.put,lS,lZ,lC];refine aX rfl rfl (by go_simp;rfl) ?_;simp only[Act.put,lS,lZ,lC];refine aX rfl rfl (by go_simp;rfl) ?_;simp only[Act.put,lS,lZ,lC];refine eA rfl rfl ?_;go_simp;refine⟨inI (toI.out _ ⟨na inferInstance (by simp),inferInstance,inferInstance⟩),?_⟩;refine j3 fun w5 hw5=>?_;have t5:Tg R w4 w5:=hw5▸inferInstance;have k5:Rw w5 R #[.string hm,.string ht,.int .i64 hkk,.int .i64 hn,.string hr,.slice pf hfs.length cf,.int .i64 s.fk,.int .i64 s.fl,V.vt,.int .i64 kind,.int .i64 m.head,.int .i64 m.fields,.int .i64 m.line,.int .i64 m.body,.int .i64 m.fold,.string s.me,.pointer (some ⟨V.b,0,none⟩),V.vd,.bool s.ended,.int .i64 s.e] 88:=hw5▸(Rw.to inferInstance (by simp));have m5:Rw w5 w2.heap.size #[.string hm,.string ht,.int .i64 hkk,.int .i64 hn,.string hr,.slice pf hfs.length cf] 44:=hw5▸inferInstance;have n5:Rw w5 w3.heap.size #[.int .i64 a,.int .i64 b] 46:=hw5▸inferInstance
   clear hw5;refine aX rfl rfl (by go_simp;rfl) ?_;simp only[Act.put,lS,lZ,lC];refine aX rfl rfl (by go_simp;rfl) ?_;simp only[Act.put,lS,lZ,lC];refine aX rfl rfl (by go_simp;rfl) ?_;simp only[Act.put,lS,lZ,lC];refine eA rfl rfl ?_;go_simp;refine⟨inI (toI.out _ ⟨na inferInstance (by simp),inferInstance,inferInstance⟩),?_⟩;refine j3 fun w6 hw6=>?_;have t6:Tg R w5 w6:=hw6▸inferInstance;have k6:Rw w6 R #[.string hm,.string ht,.int .i64 hkk,.int .i64 hn,.string hr,.slice pf hfs.length cf,.int .i64 a,.int .i64 b,V.vt,.int .i64 kind,.int .i64 m.head,.int .i64 m.fields,.int .i64 m.line,.int .i64 m.body,.int .i64 m.fold,.string s.me,.pointer (some ⟨V.b,0,none⟩),V.vd,.bool s.ended,.int .i64 s.e] 88:=hw6▸(Rw.to inferInstance (by simp));have m6:Rw w6 w2.heap.size #[.string hm,.string ht,.int .i64 hkk,.int .i64 hn,.string hr,.slice pf hfs.length cf] 44:=hw6▸inferInstance;have n6:Rw w6 w3.heap.size #[.int .i64 a,.int .i64 b] 46:=hw6▸inferInstance;clear hw6;refine aX rfl rfl (by go_simp;rfl) ?_;simp only[Act.put,lS,lZ,lC];refine aX rfl rfl (by go_simp;rfl) ?_;simp only[Act.put,lS,lZ,lC];refine eA rfl rfl ?_;go_simp;refine⟨inI (toI.out _ ⟨na inferInstance (by simp),inferInstance,inferInstance⟩),?_⟩;simp only[aB];go_wp2_with fail
   go_ret2
   have kf:Rw w4 R #[.string s.hd.m,.string s.hd.t,.int .i64 s.hd.k,.int .i64 s.hd.n,.string s.hd.r,V.vf,.int .i64 s.fk,.int .i64 s.fl,V.vt,.int .i64 kind,.int .i64 m.head,.int .i64 m.fields,.int .i64 m.line,.int .i64 m.body,.int .i64 m.fold,.string s.me,.pointer (some ⟨V.b,0,none⟩),V.vd,.bool s.ended,.int .i64 s.e] 88:=inferInstance;have hof:bZ w4 (fun j=>j=R) [88]:=fun j e=>⟨_,_,by decide,e▸kf.b⟩;have tf:aa (fun j=>j=R) w4 ((w6.setCell ⟨R,17,none⟩ (.pointer (some ⟨D,0,none⟩))).alloc (.cells #[.int .i64 1,.int .i64 0,.string ⟨#[]⟩] 80)):=((t5.t.trans t6.t).setCell (p:=⟨R,17,none⟩) rfl _).alloc _;have hzn:n0<=w1.heap.size:=nT (nT hr0 hrz) hz;have hz4:W.heap.size<=w4.heap.size:=HBB.out.size;have hz6:w4.heap.size<=w6.heap.size:=nT t5.t.size t6.t.size;have q1:aj w4 n0 (.slice pf hfs.length cf) hfs:=dI (kx (w:=W) (kx (w:=w2) HOF.out)) hzn;have q2:aj w4 n0 V.vt s.trl:=kx (w:=W) (kx (w:=w1) D1.out.1.t);have q3:ah w4 D n0 m (aZ m a b) VD:=ah.lower HBD.out (nT hzn hzw);refine⟨_,rfl,⟨{ V with vf:=.slice pf hfs.length cf,vl:=vl,va:=va,vp:=vp,vd:=.pointer (some ⟨D,0,none⟩),D:=D,V:=VD },bj.at ⟨ab q1 tf (hof.own q1 (by decide)),ab q2 tf (hof.own q2 (by decide)),(fun e=>by cases e),rfl,q3.touchT tf hof (by decide),rW m a b (Int.le_trans HFL.out.2 (by decide)),nT (qx m a b) (by decide)⟩ (Rw.to (inferInstance:Rw _ R _ _) (by simp[fC])).b hr0,fun j hj hk=>?_⟩,BD.out,jT inferInstance ?_,fM D1.out.2 (kL.ofR D1.out.1 (((aa.of_below oW.b).trans (aa.of_below ⟨HBB.out.os,HBB.out.tape,HBB.out.output,HBB.out.size,HBB.out.block⟩)).trans tf))⟩
   ·have h1:=(World.ownsRow.lt HBD.out.o j hk).2
    injection hj with hj
    simp only at hj;omega
   ·omega
 ·rw[if_pos he]
  have e1:(e != 0)=true:=uI.2 he;clear he hok;go_enter Tryz.func37,Tryz.ntmps37
  go_wp2_with (first
   | (go_at_call 47;refine HF.out.mono ?_;rintro x1 w1 ⟨rfl,vl,va,vp,hp,hbd,ht,-,-⟩;have D1:=lH (H.out.par HD.out hp ht);have BD:=lH hbd;have i2:=D1.out.1.rw;have hz:=ht.size;clear hp ht hbd)
   | (go_at_call 40;refine(iP D1.out.1 e).mono ?_;rintro x2 w2 ⟨v,rfl,hr,ho,ht⟩;have D2:=lH hr;have HO:=lH ho;have T2:=lH ht;clear hr ho ht))
  go_ret2
  exact⟨_,rfl,⟨_,D2.out,fun e=>absurd e (by simp[dK,HD.out])⟩,BD.out,dI HO.out (by omega),fM D1.out.2 (kL.ofR D1.out.1 T2.out)⟩
end
end Go.Proofs.YthjbodpeckebiaaGreatDoor
-- RdrJ
namespace Go.Proofs.YthjbodpeckebiaaGreatDoor
open Go.RowKit
section
variable {w:World} {R n0:Nat} {kind:Int} {m:Lm} {s:fi} {V:oc}
theorem tE (kind:Int) (m:Lm) (s:fi) (P:cY×Nat):(kz kind m s P).1.p=P.1:=by
 unfold kz dK;(repeat' split)<;>rfl
theorem pL (h:aT w R n0 kind m s V) (hd:s.d=none) (hst:¬2<=iW s) (hk:kind=1\/kind=2) (hg:gK s.p) (hfi:-9223372036854775808<=m.fields/\m.fields<=9223372036854775807) (hn0:0<n0) {mx:Int} (hmx:w.cell? ⟨0,0,none⟩=some (.int .i64 mx)) (S:ByteArray) (hS:S.size<=100000) (hok:(cC kind m.fields m.fold S.data.toList s.p).1.fin=true->gk (cC kind m.fields m.fold S.data.toList s.p).1.hd.fs) (Z:fi×Nat×List Pc) (hZ:Z=kz kind m s (cC kind m.fields m.fold S.data.toList s.p)):
 Calls Tryz.prog 21 #[.pointer (some ⟨R,0,none⟩),.string S] w fun x w'=>∃vo,x=.returned (.tuple #[.int .i64 (Z.2.1:Int),vo])/\((∃V',aT w' R n0 kind m Z.1 V'/\(Z.1.d.isSome=true->∀j,vo.ownBlock=some j->V'.V.vo.ownBlock≠some j))/\gK Z.1.p/\aU w' n0 vo Z.2.2/\aa (kL w n0 sZ) w w'):=by
 have HT:=lH (rq h hd hk hg hfi hn0 hmx S (by omega) _ rfl hok);have hp:=tE kind m s (cC kind m.fields m.fold S.data.toList s.p);rw[<-hZ] at HT hp
 have hn:(cC kind m.fields m.fold S.data.toList s.p).2=Z.2.1:=by
  rw[hZ];unfold kz;(repeat' split)<;>rfl
 rw[hn,<-hp] at HT;have HS:=lH (cP h);have hdd:decide (2<=iW s)=false:=dF hst;have hv:=h.d;rw[hd] at hv;have hv:V.vd=.pointer none:=hv;have i1:=h.rw;rw[hv] at i1;generalize iW s=z at *;clear h hZ hst hd hok hp hn hmx hS hg hv;go_enter Tryz.func21,Tryz.ntmps21
 go_wp2_with (first
  | (go_at_call 18;refine HS.out.mono ?_;rintro x1 w1 ⟨rfl,rfl⟩)
  | (go_at_call 37;refine HT.out.mono ?_;rintro x1 w1 ⟨vo,rfl,hr⟩;have HR:=lH hr;clear hr))
 go_ret2
 exact⟨_,rfl,HR.out⟩
end
end Go.Proofs.YthjbodpeckebiaaGreatDoor
-- RdrK
namespace Go.Proofs.YthjbodpeckebiaaGreatDoor
open Go.RowKit
def kD:Lm:=⟨100,5,0,0,0⟩
def s6:fi×Nat×List Pc:=kz 1 kD (rP 100) (cC 1 kD.fields kD.fold (⟨#[71,69,84,32,47,32,72,84,84,80,47,49,46,48,13,10,13,10]⟩:ByteArray).data.toList (rP 100).p)
def tF:fi:=sY s6.1 (dO kD (aZ kD 0 0) (⟨#[]⟩:ByteArray).data.toList).1
theorem rk_n:s6.2.1=18:=by kernel_rfl
theorem rk_l:s6.2.2=[⟨1,0,⟨#[]⟩⟩]:=by kernel_rfl
theorem rk_d:s6.1.d=some (aZ kD 0 0):=by kernel_rfl
theorem rk_s:iW s6.1=1:=by kernel_rfl
theorem rk_o:(dO kD (aZ kD 0 0) (⟨#[]⟩:ByteArray).data.toList).1.out=[⟨4,0,⟨#[]⟩⟩]:=by kernel_rfl
theorem rk_t:iW tF=2:=by kernel_rfl
theorem rk_b:(eT 100 ⟨#[]⟩ tF).2=true:=by kernel_rfl
theorem rk_i:iW (eT 100 ⟨#[]⟩ tF).1=0:=by kernel_rfl
theorem rk_f:(cC 1 kD.fields kD.fold (⟨#[71,69,84,32,47,32,72,84,84,80,47,49,46,48,13,10,13,10]⟩:ByteArray).data.toList (rP 100).p).1.hd.fs=[]:=by kernel_rfl
theorem rk_0:¬2<=iW (rP 100):=by decide +kernel
theorem oI:gk []:=⟨by simp,by simp,by simp,by decide +kernel⟩
theorem nO {w:World} {B:Nat} {v:Value} {p:Pc} (h:aU w B v [p]):∃g c cur,v=.slice (some ⟨g,0,none⟩) 1 c/\ac w g cur 80/\cur[0]? = some (.int .i64 p.k)/\cur[1]? = some (.int .i64 p.n)/\cur[2]? = some (.string p.t):=by
 obtain⟨_,h⟩:=h;rcases h with ⟨_,h⟩|⟨g,cap,cur,rfl,_,hg,_,_,_,ht⟩
 ·cases h
 ·have h3:cur.toList.take 3=[.int .i64 p.k,.int .i64 p.n,.string p.t]:=ht
  have e:∀i,i<3->cur[i]? = [Value.int .i64 p.k,.int .i64 p.n,.string p.t][i]?:=fun i hi=>by
   rw[<-h3,vb hi];simp
  exact⟨g,cap,cur,rfl,hg,e 0 (by decide),e 1 (by decide),e 2 (by decide)⟩
theorem kL.below {w w1:World} {n0:Nat} {l:List TypeId} (t:aa (kL w n0 l) w w1) (h:n0<=w.heap.size):Below n0 w w1:=t.below (fun _ _ h=>h.1) h
theorem nf {w:World} {mx:Int} (hmx:w.cell? ⟨0,0,none⟩=some (.int .i64 mx)):Calls Tryz.prog 16 #[] w fun e w'=>e=.returned (.bool true)/\Below w.heap.size w w':=by
 have h0:0<w.heap.size:=t8 w _ hmx;have HN:=lH (rp 1 kD (by decide) (by decide) (Or.inl rfl) w)
 have HF:Hid (∀w1 R V,aT w1 R w.heap.size 1 kD (rP 100) V->Below w.heap.size w w1->Calls Tryz.prog 21 #[.pointer (some ⟨R,0,none⟩),.string ⟨#[71,69,84,32,47,32,72,84,84,80,47,49,46,48,13,10,13,10]⟩] w1 fun x w'=>∃g c cur V',x=.returned (.tuple #[.int .i64 18,.slice (some ⟨g,0,none⟩) 1 c])/\aT w' R w.heap.size 1 kD s6.1 V'/\V'.V.vo.ownBlock≠some g/\(ac w' g cur 80/\cur[0]? = some (.int .i64 1)/\cur[1]? = some (.int .i64 0)/\cur[2]? = some (.string ⟨#[]⟩))/\Below w.heap.size w w'):=by
  intro w1 R V h hb;refine(pL h rfl rk_0 (Or.inl rfl) (tD (by decide) (by decide)) (by decide) h0 (dl hmx h0 hb) _ (by decide) (fun _=>(by rw[rk_f];exact oI)) s6 rfl).mono ?_;rintro x w' ⟨vo,rfl,⟨V',h1,h2⟩,-,h3,h4⟩;rw[rk_l] at h3;obtain⟨g,c,cur,rfl,h5⟩:=nO h3;refine⟨g,c,cur,V',by rw[rk_n];rfl,h1,h2 (by rw[rk_d];rfl) g rfl,h5,hb.trans (kL.below h4 hb.size)⟩
 have HG:Hid (∀w1 R V,aT w1 R w.heap.size 1 kD s6.1 V->Below w.heap.size w w1->Calls Tryz.prog 21 #[.pointer (some ⟨R,0,none⟩),.string ⟨#[]⟩] w1 fun x w'=>∃n g c cur V',x=.returned (.tuple #[.int .i64 n,.slice (some ⟨g,0,none⟩) 1 c])/\aT w' R w.heap.size 1 kD tF V'/\(∀j cs,ac w1 j cs 80->V.V.vo.ownBlock≠some j->ac w' j cs 80)/\(ac w' g cur 80/\cur[0]? = some (.int .i64 4)/\cur[1]? = some (.int .i64 0)/\cur[2]? = some (.string ⟨#[]⟩))/\Below w.heap.size w w'):=by
  intro w1 R V h hb;refine(pK h rk_d (by rw[rk_s];decide) h0 (dl hmx h0 hb) _ (by decide)).mono ?_;rintro x w' ⟨vo,rfl,⟨V',h1⟩,h3,h4,h6⟩;rw[rk_o] at h3;obtain⟨g,c,cur,rfl,h5⟩:=nO h3;exact⟨_,g,c,cur,V',rfl,h1,h6,h5,hb.trans (kL.below h4 hb.size)⟩
 have HB:Hid (∀w1 R V,aT w1 R w.heap.size 1 kD tF V->Calls Tryz.prog 23 #[.pointer (some ⟨R,0,none⟩),.string ⟨#[]⟩] w1 fun x w'=>x=.returned (.bool true)/\(∃V',aT w' R w.heap.size 1 kD (eT 100 ⟨#[]⟩ tF).1 V')/\aa (fun j=>j=R) w1 w'):=by
  intro w1 R V h;refine(m9 h (by decide) (by decide) (Or.inl rfl) ⟨#[]⟩).mono ?_;rintro x w' ⟨rfl,h2,h3⟩;exact⟨by rw[show (eT kD.head ⟨#[]⟩ tF).2=true from rk_b],h2,h3⟩
 unfold kD at HN;go_enter Tryz.func16,Tryz.ntmps16
 go_upto_region 4 with (first
  | (go_at_call 28;refine HN.out.mono ?_;rintro x1 w1 ⟨R,V1,rfl,hr,hb⟩;have R1:=lH hr;have B1:=lH hb;clear hr hb HN)
  | (go_at_call 21;refine(HF.out _ _ _ R1.out B1.out).mono ?_;rintro x2 w2 ⟨g1,c1,cur1,V2,rfl,hr,hn,hp,hb⟩;have R2:=lH hr;have B2:=lH hb;have P2:=lH hp;have N2:=lH hn;clear hr hb hp hn HF)
  | (go_at_call 21;refine(HG.out _ _ _ R2.out B2.out).mono ?_;rintro x3 w3 ⟨n3,g3,c3,cur3,V3,rfl,hr,hk,hp,hb⟩;have R3:=lH hr;have B3:=lH hb;have P3:=lH hp;have K3:=lH (hk _ _ P2.out.1 N2.out);clear hr hb hp hk HG))
 have a0:w3.cell? ⟨g1,0,none⟩=some (.int .i64 1):=(K3.out.cell 0).trans P2.out.2.1;have a1:w3.cell? ⟨g1,1,none⟩=some (.int .i64 0):=(K3.out.cell 1).trans P2.out.2.2.1;have a2:w3.cell? ⟨g1,2,none⟩=some (.string ⟨#[]⟩):=(K3.out.cell 2).trans P2.out.2.2.2;have b0:w3.cell? ⟨g3,0,none⟩=some (.int .i64 4):=(P3.out.1.cell 0).trans P3.out.2.1;have b1:w3.cell? ⟨g3,1,none⟩=some (.int .i64 0):=(P3.out.1.cell 1).trans P3.out.2.2.1;have b2:w3.cell? ⟨g3,2,none⟩=some (.string ⟨#[]⟩):=(P3.out.1.cell 2).trans P3.out.2.2.2;have HS:=lH (cP R3.out);rw[rk_t] at HS
 go_wp2_with (first
  | (go_at_call 18;refine HS.out.mono ?_;rintro x4 w4 ⟨rfl,rfl⟩;clear HS)
  | (go_at_call 23;refine(HB.out _ _ _ R3.out).mono ?_;rintro x5 w5 ⟨rfl,⟨V5,hr⟩,ht⟩;have HS5:=lH (cP hr);rw[rk_i] at HS5;have B5:=lH (B3.out.trans (ht.below (fun k _ e=>e▸R3.out.r) B3.out.size));clear hr ht HB)
  | (go_at_call 18;refine HS5.out.mono ?_;rintro x6 w6 ⟨rfl,rfl⟩))
 go_ret;exact⟨rfl,B5.out⟩
end Go.Proofs.YthjbodpeckebiaaGreatDoor
-- RdrN
namespace Go.Proofs.YthjbodpeckebiaaGreatDoor
open Go.RowKit
theorem rnone_any (S:ByteArray) (hs:S.size<=9223372036854775807) {w:World} {mx:Int} (hmx:w.cell? ⟨0,0,none⟩=some (.int .i64 mx)):
 Calls Tryz.prog 7 #[.string S] w fun e w'=>e=.returned (.bool true)/\Below w.heap.size w w':=by
 have h0:0<w.heap.size:=t8 w _ hmx;have HLV:=lH fun V [o:Ov w V]=>nf (dl hmx h0 o.b);obtain⟨K,hK⟩:∃K:Nat,min (S.size:Int) 100=(K:Int):=⟨min S.size 100,by omega⟩;obtain⟨B,hB⟩:∃B,S.extract 0 K=B:=⟨_,rfl⟩;have hmin:(if (100:Int)<(S.size:Int) then (100:Int) else (S.size:Int))=(K:Int):=by rw[<-hK];omega
 have hsl:∀W:World,(Instr.slice 9 (.string S) none (some (.int .i64 (K:Int))) none).run Tryz.prog W=.ok (.string B) W:=fun W=>by
  rw[run_slice_string_h W 9 S Tryz.underlying9 .i64 (K:Int) (by omega) (by omega),uc,hB]
 have HF:=lH (mO B);have HC:=lH lG;have HBg:=lH (lF B);have HSt:=lH dG;have HE:=lH pd;have HH:=lH mP;have HFr:=lH lI;have HT:=lH lJ;have HN:=lH (ng 3 0 0 0 0 0 (Or.inr (by decide)))
 have HS:Hid (∀V,Calls Tryz.prog 24 #[.agg #[.string ⟨#[]⟩,.string ⟨#[]⟩,.int .i64 0,.int .i64 0,.string ⟨#[]⟩,.slice none 0 0],.agg #[.string ⟨#[]⟩,.string ⟨#[]⟩,.int .i64 0,.int .i64 0,.string ⟨#[]⟩,.slice none 0 0]] V fun e w'=>e=.returned (.bool true)/\Below V.heap.size V w'):=fun V=>by
  have:=o0 ⟨#[]⟩ ⟨#[]⟩ ⟨#[]⟩ ⟨#[]⟩ ⟨#[]⟩ ⟨#[]⟩ 0 0 0 0 (.slice none 0 0) (.slice none 0 0) [] [] (p1:=true) (p2:=true) (p3:=true) (p4:=true) (p5:=true) (beq_self_eq_true _) (beq_self_eq_true _) rfl rfl (beq_self_eq_true _) V (bL.nil _ _ _) (bL.nil _ _ _) (by decide) (by decide);simpa using this
 clear hmx hB;go_enter Tryz.func7,Tryz.ntmps7
 go_wp2_with (first
  | (go_at_call 21;refine(HF.out _).mono ?_;rintro x1 w1 ⟨rfl,rfl⟩)
  | (go_at_call 22;refine(HC.out _).mono ?_;rintro x1 w1 ⟨rfl,rfl⟩)
  | (go_at_call 23;refine(HBg.out _).mono ?_;rintro x1 w1 ⟨rfl,rfl⟩)
  | (go_at_call 18;refine(HSt.out _).mono ?_;rintro x1 w1 ⟨rfl,rfl⟩)
  | (go_at_call 20;refine(HE.out _).mono ?_;rintro x1 w1 ⟨rfl,rfl⟩)
  | (go_at_call 27;refine(HT.out _).mono ?_;rintro x1 w1 ⟨rfl,rfl⟩)
  | (go_at_call 25;refine(HH.out _).mono ?_;rintro x1 w1 ⟨rfl,hb⟩;obtain⟨_,_,_,_,_⟩:=gP (w:=w) hb;clear hb;unfold cR Hd.row aG)
  | (go_at_call 26;refine(HFr.out _).mono ?_;rintro x1 w1 ⟨rfl,hb⟩;obtain⟨_,_,_,_,_⟩:=gP (w:=w) hb;clear hb)
  | (go_at_call 24;refine(HS.out _).mono ?_;rintro x1 w1 ⟨rfl,hb⟩;obtain⟨_,_,_,_,_⟩:=gP (w:=w) hb;clear hb)
  | (go_at_call 28;refine(HN.out _).mono ?_;rintro x1 w1 ⟨rfl,hb⟩;obtain⟨_,_,_,_,_⟩:=gP (w:=w) hb;clear hb)
  | (go_at_call 16;refine(HLV.out _).mono ?_;rintro x1 w1 ⟨rfl,hb⟩;obtain⟨_,_,_,_,_⟩:=gP (w:=w) hb;clear hb))
 go_ret;exact⟨rfl,Ov.of⟩
end Go.Proofs.YthjbodpeckebiaaGreatDoor
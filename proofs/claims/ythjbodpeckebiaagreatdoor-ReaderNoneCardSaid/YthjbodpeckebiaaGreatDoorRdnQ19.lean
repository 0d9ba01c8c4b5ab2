/- Texts packed for one claim, 19 of 48: RHParse HFew Lns HpPlain See. -/
import Derived.Test.YthjbodpeckebiaaGreatDoorRdnQ17
import Derived.Deep.Cut
import Derived.Test.YthjbodpeckebiaaGreatDoorRdnQ18
set_option maxRecDepth 100000
set_option maxHeartbeats 16000000
set_option linter.unusedSimpArgs false
set_option linter.unusedVariables false
-- RHParse
namespace Go.Proofs.YthjbodpeckebiaaGreatDoor
open Go.RowKit
theorem bV (id:Nat) {P:Program} {ops:Array Oper} {b:Bool} {Q:Exit->Act->World->Prop} {a:Act} {w:World} (h:∀w',w'=w->(Code.region id ops b).wp P Q a w'):(Code.region id ops b).wp P Q a w:=h w rfl
end Go.Proofs.YthjbodpeckebiaaGreatDoor
-- HFew
namespace Go.Proofs.YthjbodpeckebiaaGreatDoor
open Go.RowKit
theorem mD (kind a fields c d fold:Int) (hfi:-9223372036854775808<=fields/\fields<=9223372036854775807) (v:Value) (hcap:sO v) (l:List ByteArray) (w:World) {mx:Int} (hm:w.cell? ⟨0,0,none⟩=some (.int .i64 mx)) (hS:dy w v l) (hn:l.length<=100000) (ht:du l<=100000):
 Calls Tryz.prog 89 #[.int .i64 kind,.agg #[.int .i64 a,.int .i64 fields,.int .i64 c,.int .i64 d,.int .i64 fold],v] w fun e w'=>∃f,e=.returned (.tuple #[.agg ((bs kind fields fold l).1.row f),.int .i64 (bs kind fields fold l).2])/\aj w' w.heap.size f (bs kind fields fold l).1.fs/\Below w.heap.size w w':=by
 by_cases h12:kind=1\/kind=2
 ·cases l with
  | nil=>
    obtain⟨p,cc,rfl,_⟩:=hS;refine(mF kind a fields c d fold h12 p cc w).mono ?_;rintro e w' ⟨rfl,hb⟩;have hP:bs kind fields fold []=(cR,2):=by unfold bs;rw[if_neg (by omega)]
    exact⟨aG,by rw[hP],by rw[hP];exact aj.start _ _,hb⟩
  | cons s rest=>
    obtain⟨p,cc,rfl,hc⟩:=hS;obtain⟨b,off,rfl,_⟩:=hc 0 (by simp);have hS:dy w (.slice (some ⟨b,off,none⟩) (s :: rest).length cc) (s :: rest):=⟨_,_,rfl,hc⟩;have hl:(s :: rest).length=rest.length+1:=rfl;rw[hl] at hS hn ⊢;have hcap:rest.length+1<=cc:=hcap;exact oZ kind h12 a fields c d fold hfi b off rest.length cc s rest w hm hS hcap (by omega) ht
 ·have hP:bs kind fields fold l=(cR,1):=by unfold bs;rw[if_pos ⟨fun e=>h12 (Or.inl e),fun e=>h12 (Or.inr e)⟩]
  refine(mE kind a fields c d fold (fun e=>h12 (Or.inl e)) (fun e=>h12 (Or.inr e)) v w).mono ?_;rintro e w' ⟨rfl,hb⟩;exact⟨aG,by rw[hP],by rw[hP];exact aj.start _ _,hb⟩
end Go.Proofs.YthjbodpeckebiaaGreatDoor
-- Lns
namespace Go.Proofs.YthjbodpeckebiaaGreatDoor
open Go.RowKit
structure dx where
 left:Int
 spent:Int
 line:List UInt8
 within:Bool
 turn:Bool
 whole:Bool
 e:Int
def dx.row (s:dx) (v:Value):Array Value:=#[.int .i64 s.left,.int .i64 s.spent,v,.bool s.within,.bool s.turn,.bool s.whole,.int .i64 s.e]
structure bm (w:World) (g B:Nat) (v:Value) (s:dx):Prop where
 b:ac w g (s.row v) 136
 o:cm w B v s.line
 lt:g<B
 sz:B<=w.heap.size
def aW (s:dx) (c:UInt8):dx×Int:=
 if s.left=0 then (s,4) else if s.turn≠decide (c=10) then (s,8)
 else if c=13 then ({ s with turn:=true,left:=s.left - 1,spent:=s.spent+1,within:=!s.whole },0)
 else if c=10 then ({ s with turn:=false,whole:=true,left:=s.left - 1,spent:=s.spent+1,within:=false },0)
 else ({ s with line:=s.line++[c],left:=s.left - 1,spent:=s.spent+1,within:=!s.whole },0)
end Go.Proofs.YthjbodpeckebiaaGreatDoor
-- HpPlain
namespace Go.Proofs.YthjbodpeckebiaaGreatDoor
open Go.RowKit
def cD (l:List UInt8):ByteArray:=⟨l.toArray⟩
theorem j1 (l:List UInt8):(cD l).size=l.length:=by
 unfold cD;show l.toArray.size=_;simp
def ag:List UInt8->dx->dx×Nat
 | [],s=>(s,0)
 | c :: r,s=>if s.whole=true\/s.e≠0 then (s,0)
   else if (aW s c).2=0 then ((ag r { (aW s c).1 with e:=0 }).1,(ag r { (aW s c).1 with e:=0 }).2+1)
   else ({ (aW s c).1 with e:=(aW s c).2 },0)
structure cY where
 ln:dx
 all:List ByteArray
 fin:Bool
 hd:Hd
 e:Int
def eH (kind fields fold:Int) (p:cY) (s:ByteArray):cY:=
 if s.size≠0 then { p with all:=p.all++[s] }
 else if p.all≠[]\/kind=2 then { p with fin:=true,hd:=(bs kind fields fold p.all).1,e:=(bs kind fields fold p.all).2 } else p
def jV (kind fields fold:Int) (p:cY) (s:dx):cY:=
 if s.whole=true then eH kind fields fold { p with ln:={ s with line:=[],whole:=false,e:=0 },e:=0 } (cD s.line) else { p with ln:={ s with e:=0 },e:=0 }
def cC (kind fields fold:Int):List UInt8->cY->cY×Nat
 | [],p=>(p,0)
 | c :: r,p=>if p.fin=true\/p.e≠0 then (p,0)
   else if (aW p.ln c).2=0 then ((cC kind fields fold r (jV kind fields fold p (aW p.ln c).1)).1,(cC kind fields fold r (jV kind fields fold p (aW p.ln c).1)).2+1)
   else ({ p with ln:={ (aW p.ln c).1 with e:=(aW p.ln c).2 },e:=(aW p.ln c).2 },0)
def gx (kind fields fold:Int) (l:List UInt8) (p:cY):cY:=
 if (ag l p.ln).1.whole=true then eH kind fields fold { p with ln:={ (ag l p.ln).1 with line:=[],whole:=false },e:=(ag l p.ln).1.e } (cD (ag l p.ln).1.line)
 else { p with ln:=(ag l p.ln).1,e:=(ag l p.ln).1.e }
theorem dj:∀(l:List UInt8) (s:dx),(ag l s).2<=l.length
 | [],s=>nR _
 | c :: r,s=>by
   rw[ag];split
   ·exact tX _
   split
   ·simpa using dj r _
   ·exact tX _
theorem cw (l:List UInt8) (s:dx) (h:s.whole=true\/s.e≠0):ag l s=(s,0):=by
 cases l with
 | nil=>rfl
 | cons c r=>rw[ag,if_pos h]
theorem tH (s:dx) (c:UInt8):(aW s c).1.e=s.e:=by
 unfold aW;repeat' split
 all_goals rfl
theorem sU (s:dx) (h:s.e=0):{ s with e:=0 }=s:=by
 obtain⟨a,b,c,d,e,f,g⟩:=s;simp only at h;subst h;rfl
theorem gb (kind fields fold:Int) (l:List UInt8) (p:cY) (h:p.fin=true\/p.e≠0):cC kind fields fold l p=(p,0):=by
 cases l with
 | nil=>rfl
 | cons c r=>rw[cC,if_pos h]
theorem jU (kind fields fold:Int):∀(l:List UInt8) (p:cY),p.fin=false->p.e=0->p.ln.e=0->p.ln.whole=false->l≠[]->
 cC kind fields fold l p=((cC kind fields fold (l.drop (ag l p.ln).2) (gx kind fields fold l p)).1,(ag l p.ln).2+(cC kind fields fold (l.drop (ag l p.ln).2) (gx kind fields fold l p)).2)
 | [],p,_,_,_,_,h=>absurd rfl h
 | c :: r,p,h1,h2,h3,h4,_=>by
   have n1:¬(p.fin=true\/p.e≠0):=by rw[h1,h2];simp
   have n2:¬(p.ln.whole=true\/p.ln.e≠0):=by rw[h3,h4];simp
   rw[cC,if_neg n1];unfold gx;rw[ag,if_neg n2];by_cases hs:(aW p.ln c).2=0
   ·rw[if_pos hs,if_pos hs]
    obtain⟨S,hS⟩:∃S,S=(aW p.ln c).1:=⟨_,rfl⟩;have hSe:S.e=0:=by rw[hS,tH,h3]
    rw[<-hS];rw[sU S hSe];cases hw:S.whole with
    | true=>
      rw[cw r S (Or.inl hw)];simp only[hw,if_true,uA,us,uJ]
      have:jV kind fields fold p S=eH kind fields fold { p with ln:={ S with line:=[],whole:=false },e:=S.e } (cD S.line):=by
       unfold jV;rw[if_pos hw,hSe]
      rw[this,Nat.add_comm]
    | false=>
      have ht:jV kind fields fold p S={ p with ln:=S,e:=0 }:=by
       unfold jV;rw[if_neg (by rw[hw];decide),sU S hSe]
      rw[ht];simp only[uA];by_cases hr:r=[]
      ·subst hr
       rw[ag,hw];simp only[uP,if_false];rw[hSe];simp[cC]
      ·have ih:=jU kind fields fold r { p with ln:=S,e:=0 } h1 rfl hSe hw hr
       rw[ih];unfold gx;simp only;congr 1
       omega
   ·rw[if_neg hs,if_neg hs]
    have hSe:(aW p.ln c).1.whole=false:=by
     revert hs;unfold aW;repeat' split
     all_goals first
      | (intro _;exact h4)
      | (intro hs;exact absurd rfl hs)
    simp only[hSe,uP,if_false,us,uJ];rw[gb];exact Or.inr hs
end Go.Proofs.YthjbodpeckebiaaGreatDoor
-- See
namespace Go.Proofs.YthjbodpeckebiaaGreatDoor
open Go.RowKit
def mb (g:Nat) (v:Value) (j:Nat):Prop:=j=g\/v.ownBlock=some j
theorem aA {P Q:Nat->Prop} {w w1 w2:World} (h:aa P w w1) (k:aa Q w1 w2) (hq:∀i,i<w.heap.size->Q i->P i):aa P w w2:=
 ⟨k.os.trans h.os,k.tape.trans h.tape,k.output.trans h.output,nT h.size k.size,fun i hi hP=>(k.block i (uD hi h.size) fun hQ=>hP (hq i hi hQ)).trans (h.block i hi hP)⟩
theorem cm.lt {w:World} {B:Nat} {v:Value} {l:List UInt8} (h:cm w B v l):∀k,v.ownBlock=some k->B<=k/\k<w.heap.size:=by
 intro k hk;obtain⟨_,h2⟩:=h;rcases h2 with ⟨rfl,_⟩|⟨g',cap,cur,rfl,hB,hg,_⟩
 ·cases hk
 ·have:g'=k:=by injection hk
  subst this;exact⟨hB,(ua.1 hg).1⟩
theorem sB (L S:Int) (Ln:List UInt8) (Wi Tu Wh:Bool) (E:Int) (c:UInt8) (e0:L≠0):aW ⟨L,S,Ln,Wi,Tu,Wh,E⟩ c=(if Tu≠decide (c=10) then (⟨L,S,Ln,Wi,Tu,Wh,E⟩,8)
 else if decide (c=13)=true then (⟨L - 1,S+1,Ln,!Wh,true,Wh,E⟩,0)
 else if decide (c=10)=true then (⟨L - 1,S+1,Ln,false,false,true,E⟩,0)
 else (⟨L - 1,S+1,Ln++[c],!Wh,Tu,Wh,E⟩,0)):=by
 unfold aW;rw[if_neg e0];simp only[tY]
theorem ln_cr {w:World} {g:Nat} {v:Value} {L S:Int} {Wi Tu Wh:Bool} {E:Int} (v2:Value) (h:ac w g #[.int .i64 L,.int .i64 S,v,.bool Wi,.bool Tu,.bool Wh,.int .i64 E] 136):ac ((((w.setCell ⟨g,4,none⟩ (.bool true)).setCell ⟨g,0,none⟩ (.int .i64 (L - 1))).setCell ⟨g,1,none⟩ (.int .i64 (S+1))).setCell ⟨g,3,none⟩ (.bool (!Wh))) g #[.int .i64 (L - 1),.int .i64 (S+1),v,.bool (!Wh),.bool true,.bool Wh,.int .i64 E] 136:=by
 have:=((((h.set 4 (.bool true)).set 0 (.int .i64 (L - 1))).set 1 (.int .i64 (S+1))).set 3 (.bool (!Wh)));simpa using this
theorem sW (P:Nat->Prop) (w:World) (g:Nat) (hg:P g) (v2:Value) (L S:Int) (Wh:Bool):aa P w ((((w.setCell ⟨g,4,none⟩ (.bool true)).setCell ⟨g,0,none⟩ (.int .i64 (L - 1))).setCell ⟨g,1,none⟩ (.int .i64 (S+1))).setCell ⟨g,3,none⟩ (.bool (!Wh))):=(((((aa.refl _ w).setCell (p:=⟨g,4,none⟩) hg (.bool true)).setCell (p:=⟨g,0,none⟩) hg (.int .i64 (L - 1))).setCell (p:=⟨g,1,none⟩) hg (.int .i64 (S+1))).setCell (p:=⟨g,3,none⟩) hg (.bool (!Wh)))
theorem ln_lf {w:World} {g:Nat} {v:Value} {L S:Int} {Wi Tu Wh:Bool} {E:Int} (v2:Value) (h:ac w g #[.int .i64 L,.int .i64 S,v,.bool Wi,.bool Tu,.bool Wh,.int .i64 E] 136):ac (((((w.setCell ⟨g,4,none⟩ (.bool false)).setCell ⟨g,5,none⟩ (.bool true)).setCell ⟨g,0,none⟩ (.int .i64 (L - 1))).setCell ⟨g,1,none⟩ (.int .i64 (S+1))).setCell ⟨g,3,none⟩ (.bool false)) g #[.int .i64 (L - 1),.int .i64 (S+1),v,.bool false,.bool false,.bool true,.int .i64 E] 136:=by
 have:=(((((h.set 4 (.bool false)).set 5 (.bool true)).set 0 (.int .i64 (L - 1))).set 1 (.int .i64 (S+1))).set 3 (.bool false));simpa using this
theorem sX (P:Nat->Prop) (w:World) (g:Nat) (hg:P g) (v2:Value) (L S:Int) (Wh:Bool):aa P w (((((w.setCell ⟨g,4,none⟩ (.bool false)).setCell ⟨g,5,none⟩ (.bool true)).setCell ⟨g,0,none⟩ (.int .i64 (L - 1))).setCell ⟨g,1,none⟩ (.int .i64 (S+1))).setCell ⟨g,3,none⟩ (.bool false)):=((((((aa.refl _ w).setCell (p:=⟨g,4,none⟩) hg (.bool false)).setCell (p:=⟨g,5,none⟩) hg (.bool true)).setCell (p:=⟨g,0,none⟩) hg (.int .i64 (L - 1))).setCell (p:=⟨g,1,none⟩) hg (.int .i64 (S+1))).setCell (p:=⟨g,3,none⟩) hg (.bool false))
theorem ln_ap {w:World} {g:Nat} {v:Value} {L S:Int} {Wi Tu Wh:Bool} {E:Int} (v2:Value) (h:ac w g #[.int .i64 L,.int .i64 S,v,.bool Wi,.bool Tu,.bool Wh,.int .i64 E] 136):ac ((((w.setCell ⟨g,2,none⟩ (v2)).setCell ⟨g,0,none⟩ (.int .i64 (L - 1))).setCell ⟨g,1,none⟩ (.int .i64 (S+1))).setCell ⟨g,3,none⟩ (.bool (!Wh))) g #[.int .i64 (L - 1),.int .i64 (S+1),v2,.bool (!Wh),.bool Tu,.bool Wh,.int .i64 E] 136:=by
 have:=((((h.set 2 (v2)).set 0 (.int .i64 (L - 1))).set 1 (.int .i64 (S+1))).set 3 (.bool (!Wh)));simpa using this
theorem sV (P:Nat->Prop) (w:World) (g:Nat) (hg:P g) (v2:Value) (L S:Int) (Wh:Bool):aa P w ((((w.setCell ⟨g,2,none⟩ (v2)).setCell ⟨g,0,none⟩ (.int .i64 (L - 1))).setCell ⟨g,1,none⟩ (.int .i64 (S+1))).setCell ⟨g,3,none⟩ (.bool (!Wh))):=(((((aa.refl _ w).setCell (p:=⟨g,2,none⟩) hg (v2)).setCell (p:=⟨g,0,none⟩) hg (.int .i64 (L - 1))).setCell (p:=⟨g,1,none⟩) hg (.int .i64 (S+1))).setCell (p:=⟨g,3,none⟩) hg (.bool (!Wh)))
theorem sC {g B:Nat} {v:Value} {s:dx} {w:World} (h:bm w g B v s) (c:UInt8) (x:Int) (hx:x=c.toNat) (h1:0<=s.left) (h2:s.left<=1000000) (h3:0<=s.spent) (h4:s.spent<=1000000) (h5:s.line.length<=1000000):
 Calls Tryz.prog 88 #[.pointer (some ⟨g,0,none⟩),.int .u8 x] w fun e w'=>e=.returned (.int .i64 (aW s c).2)/\∃v',bm w' g B v' (aW s c).1/\aa (mb g v) w w'/\(v'.ownBlock=v.ownBlock\/∀k,v'.ownBlock=some k->w.heap.size<=k):=by
 obtain⟨L,S,Ln,Wi,Tu,Wh,E⟩:=s;simp only at h1 h2 h3 h4 h5;have a0:w.cell? ⟨g,0,none⟩=some (.int .i64 L):=h.b.cell 0;have f0:w.frozen? ⟨g,0,none⟩=false:=h.b.froz 0;have a1:w.cell? ⟨g,1,none⟩=some (.int .i64 S):=h.b.cell 1;have f1:w.frozen? ⟨g,1,none⟩=false:=h.b.froz 1;have a2:w.cell? ⟨g,2,none⟩=some (v):=h.b.cell 2;have f2:w.frozen? ⟨g,2,none⟩=false:=h.b.froz 2;have a3:w.cell? ⟨g,3,none⟩=some (.bool Wi):=h.b.cell 3;have f3:w.frozen? ⟨g,3,none⟩=false:=h.b.froz 3;have a4:w.cell? ⟨g,4,none⟩=some (.bool Tu):=h.b.cell 4;have f4:w.frozen? ⟨g,4,none⟩=false:=h.b.froz 4;have a5:w.cell? ⟨g,5,none⟩=some (.bool Wh):=h.b.cell 5;have f5:w.frozen? ⟨g,5,none⟩=false:=h.b.froz 5;have a6:w.cell? ⟨g,6,none⟩=some (.int .i64 E):=h.b.cell 6;have f6:w.frozen? ⟨g,6,none⟩=false:=h.b.froz 6;have H:=lH h;have hlt:=h.b.lt;obtain⟨R,hR⟩:∃R,R=aW ⟨L,S,Ln,Wi,Tu,Wh,E⟩ c:=⟨_,rfl⟩;rw[<-hR];clear h;by_cases e0:L=0
 ·have d0:(L==0)=true:=by rw[uB];exact e0
  have hR:R=(⟨L,S,Ln,Wi,Tu,Wh,E⟩,4):=by rw[hR];unfold aW;rw[if_pos e0]
  subst hR;clear e0 hR;go_enter Tryz.func88,Tryz.ntmps88
  go_wp2_with fail
  go_ret;exact⟨rfl,v,H.out,aa.refl _ _,Or.inl rfl⟩
 have d0:(L==0)=false:=by rw[tT];exact e0
 rw[sB _ _ _ _ _ _ _ _ e0] at hR;have HR:=lH hR;have hw1:wrap64 (L - 1)=L - 1:=uQ _ ⟨by omega,by omega⟩;have hw2:wrap64 (S+1)=S+1:=uQ _ ⟨by omega,by omega⟩;clear hR e0 h1 h2 h3 h4
 have hc10:decide (c=10)=(x==10):=by
  rw[hx];by_cases e:c=10
  ·subst e;rfl
  ·rw[dF e,eq_comm,tT]
   intro k
   exact e (ut.1 (by
    have:c.toNat=10:=by omega
    simpa using this))
 have hc13:decide (c=13)=(x==13):=by
  rw[hx];by_cases e:c=13
  ·subst e;rfl
  ·rw[dF e,eq_comm,tT]
   intro k
   exact e (ut.1 (by
    have:c.toNat=13:=by omega
    simpa using this))
 have HX:=lH hx;clear hx
 have h1013:(x==10)=true->(x==13)=false:=by
  intro k;rw[uB] at k;rw[k];rfl
 cases k10:(x==10) with
 | true=>
   have k13:=h1013 k10;have HC:=lH (And.intro (hc10.trans k10) (hc13.trans k13));clear hc10 hc13 h1013;cases Tu with
   | false=>
     have hR:R=(⟨L,S,Ln,Wi,false,Wh,E⟩,8):=by rw[HR.out,HC.out.1];rfl
     subst hR;go_enter Tryz.func88,Tryz.ntmps88
     go_wp2_with fail
     go_ret;exact⟨rfl,v,H.out,aa.refl _ _,Or.inl rfl⟩
   | true=>
     have hR:R=(⟨L - 1,S+1,Ln,false,false,true,E⟩,0):=by rw[HR.out,HC.out.1,HC.out.2];rfl
     subst hR;go_enter Tryz.func88,Tryz.ntmps88
     go_wp2_with fail
     go_ret;have T1:=sX (mb g v) w g (Or.inl rfl) v L S Wh;have T2:=sX (fun j=>j=g) w g rfl v L S Wh;have K1:=ln_lf v H.out.b;refine⟨rfl,v,⟨K1,ab H.out.o T2 (fun k hk e=>absurd (H.out.o.lt k hk).1 (by have:=H.out.lt;omega)),H.out.lt,nT H.out.sz T1.size⟩,T1,Or.inl rfl⟩
 | false=>
   cases Tu with
   | true=>
     have HC:=lH (And.intro (hc10.trans k10) (True.intro));clear hc10 hc13 h1013;have hR:R=(⟨L,S,Ln,Wi,true,Wh,E⟩,8):=by rw[HR.out,HC.out.1];rfl
     subst hR;go_enter Tryz.func88,Tryz.ntmps88
     go_wp2_with fail
     go_ret;exact⟨rfl,v,H.out,aa.refl _ _,Or.inl rfl⟩
   | false=>
     cases k13:(x==13) with
     | true=>
       have HC:=lH (And.intro (hc10.trans k10) (hc13.trans k13));clear hc10 hc13 h1013;have hR:R=(⟨L - 1,S+1,Ln,!Wh,true,Wh,E⟩,0):=by rw[HR.out,HC.out.1,HC.out.2];rfl
       subst hR;go_enter Tryz.func88,Tryz.ntmps88
       go_wp2_with fail
       go_ret;have T1:=sW (mb g v) w g (Or.inl rfl) v L S Wh;have T2:=sW (fun j=>j=g) w g rfl v L S Wh;have K1:=ln_cr v H.out.b;refine⟨rfl,v,⟨K1,ab H.out.o T2 (fun k hk e=>absurd (H.out.o.lt k hk).1 (by have:=H.out.lt;omega)),H.out.lt,nT H.out.sz T1.size⟩,T1,Or.inl rfl⟩
     | false=>
       have HC:=lH (And.intro (hc10.trans k10) (hc13.trans k13));clear hc10 hc13 h1013;have hR:R=(⟨L - 1,S+1,Ln++[c],!Wh,false,Wh,E⟩,0):=by rw[HR.out,HC.out.1,HC.out.2];rfl
       subst hR;have H5:=lH h5;clear h5;go_enter Tryz.func88,Tryz.ntmps88
       go_wp2_with (at_builtin;refine cj rfl _ _ rfl rfl H.out.o c x HX.out rfl H5.out H.out.sz ?_;intro g1 c1 w1 ho1 ht1 hg1;have hne:∀j,v.ownBlock=some j->j≠g:=fun j hj e=>absurd (H.out.o.lt j hj).1 (by have:=H.out.lt;omega);have b1:ac w1 g _ _:=H.out.b.touch ht1 (fun e=>hne g e rfl);have a0:w1.cell? ⟨g,0,none⟩=some (.int .i64 L):=b1.cell 0;have a1:w1.cell? ⟨g,1,none⟩=some (.int .i64 S):=b1.cell 1;have a2:w1.cell? ⟨g,2,none⟩=some v:=b1.cell 2;have a3:w1.cell? ⟨g,3,none⟩=some (.bool Wi):=b1.cell 3;have a5:w1.cell? ⟨g,5,none⟩=some (.bool Wh):=b1.cell 5;have f0:w1.frozen? ⟨g,0,none⟩=false:=b1.froz 0;have f1:w1.frozen? ⟨g,1,none⟩=false:=b1.froz 1;have f2:w1.frozen? ⟨g,2,none⟩=false:=b1.froz 2;have f3:w1.frozen? ⟨g,3,none⟩=false:=b1.froz 3;have B1:=lH b1;have HO1:=lH ho1;have HT1:=lH ht1;have HG1:Hid (v.ownBlock=some g1\/w.heap.size<=g1):=hg1;clear b1 ho1 ht1 hg1 hne)
       go_ret;have T1:=sV (mb g v) w1 g (Or.inl rfl) (.slice (some ⟨g1,0,none⟩) (Ln.length+1) c1) L S Wh;have T2:=sV (fun j=>j=g) w1 g rfl (.slice (some ⟨g1,0,none⟩) (Ln.length+1) c1) L S Wh;have K1:=ln_ap (.slice (some ⟨g1,0,none⟩) (Ln.length+1) c1) B1.out;have T0:aa (mb g v) w w1:=HT1.out.mono (fun j _ hj=>Or.inr hj);have hg:g<B:=H.out.lt;have hsz:=H.out.sz;have hT1:=T0.size;have hT2:=T1.size;have ho:cm ((((w1.setCell ⟨g,2,none⟩ (.slice (some ⟨g1,0,none⟩) (Ln.length+1) c1)).setCell ⟨g,0,none⟩ (.int .i64 (L - 1))).setCell ⟨g,1,none⟩ (.int .i64 (S+1))).setCell ⟨g,3,none⟩ (.bool (!Wh))) B (.slice (some ⟨g1,0,none⟩) (Ln.length+1) c1) (Ln++[c]):=ab HO1.out T2 (fun k hk e=>absurd (cm.lt HO1.out k hk).1 (by omega));refine⟨rfl,.slice (some ⟨g1,0,none⟩) (Ln.length+1) c1,⟨K1,ho,hg,by omega⟩,T0.trans T1,?_⟩;rcases HG1.out with hg1|hg1
       ·left;rw[hg1];rfl
       ·right
        intro k hk;have:g1=k:=by injection hk
        rw[<-this];exact hg1
end Go.Proofs.YthjbodpeckebiaaGreatDoor
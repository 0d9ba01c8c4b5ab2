/- Texts packed for one claim, 20 of 48: LnsW BdP LnFeed PaAt BdA BdB BdC BdD PLine PaOk PFeed HNew. -/
import Derived.Test.YthjbodpeckebiaaGreatDoorRdnQ19
import Derived.Lib.BufferRead
import Derived.Test.YthjbodpeckebiaaGreatDoorRdnQ4
import Derived.Test.YthjbodpeckebiaaGreatDoorRdnQ3
import Derived.Test.YthjbodpeckebiaaGreatDoorRdnQ13
import Derived.Test.YthjbodpeckebiaaGreatDoorRdnQ2
set_option maxRecDepth 100000
set_option maxHeartbeats 16000000
set_option linter.unusedSimpArgs false
set_option linter.unusedVariables false
-- LnsW
namespace Go.Proofs.YthjbodpeckebiaaGreatDoor
open Go.RowKit
theorem cm.conv {w:World} {B:Nat} {v:Value} {l:List UInt8} (h:cm w B v l):(convert 134 9 v).run Tryz.prog w=.ok (.string (cD l)) w:=by
 obtain⟨_,h⟩:=h;rcases h with ⟨rfl,h0⟩|⟨g,cap,cur,rfl,_,hg,k1,k2,k3,k4⟩
 ·have:l=[]:=t9 h0
  subst this;exact Lib.run_convert_nil_bytes w 134 9 5 0 Tryz.underlying134 Tryz.underlying5 Tryz.underlying9
 ·rw[Nat.mul_one] at k4
  have:=run_convert_bytes_arg (P:=Tryz.prog) w 134 5 Tryz.underlying134 Tryz.underlying5 g 0 l.length cap (l.map fun b:UInt8=>(b.toNat:Int)) (by simp) (fun i hi=>by
   have a:(l.map fun b=>Value.int .u8 b.toNat)[i]? = some (.int .u8 l[i].toNat):=by rw[u2,tW hi];rfl
   rw[<-k4,vg,if_pos (by omega),Array.getElem?_toList] at a;simp only[World.cell?,hg,uJ];rw[a,List.getD_eq_getElem?_getD,u2,tW hi]
   rfl) 9 Tryz.underlying9
  rw[this];congr 2
  unfold strOfNums cD;simp[Function.comp_def]
theorem cm.cut {w:World} {B:Nat} {v:Value} {l:List UInt8} (h:cm w B v l):∃p0 c0,(Value.slice p0 0 c0).ownBlock=v.ownBlock/\cm w B (.slice p0 0 c0) []/\∀W,(Instr.slice 134 v none (some (.int .i64 0)) none).run Tryz.prog W=.ok (.slice p0 0 c0) W:=by
 obtain⟨h1,h⟩:=h;obtain⟨i0,hi,_⟩:=info_parts jI;rcases h with ⟨rfl,h0⟩|⟨g,cap,cur,rfl,hB,hg,k1,k2,k3,k4⟩
 ·refine⟨none,0,rfl,cm.start w B,fun W=>?_⟩
  rw[run_slice_h W 134 none 0 0 Tryz.underlying134 .i64 0 (by decide) (by decide)];rw[run_sizeOf (t:=Tryz.prog.elem 134) (i:=i0) W hi];rfl
 ·refine⟨some ⟨g,0,none⟩,cap,rfl,⟨by simp,Or.inr ⟨g,cap,cur,rfl,hB,hg,tX _,k2,k3,rfl⟩⟩,fun W=>?_⟩
  rw[run_slice_h W 134 (some ⟨g,0,none⟩) l.length cap Tryz.underlying134 .i64 0 (by decide) (by omega)];rw[run_sizeOf (t:=Tryz.prog.elem 134) (i:=i0) W hi];simp only[Result.andThen];unfold sliced;simp[Addr.add]
theorem bm.drew {w:World} {g B:Nat} {v:Value} {s:dx} (h:bm w g B v s):bm w.drew g B v s:=⟨h.b.drew,h.o,h.lt,h.sz⟩
theorem lw (n:Int) (h:n<0\/65536<n) (w:World):Calls Tryz.prog 68 #[.int .i64 n] w fun e w'=>e=.returned (.pointer none)/\w'=w:=by
 by_cases h0:n<0
 ·have d0:decide (n<0)=true:=dT h0
  clear h;go_enter Tryz.func68,Tryz.ntmps68
  go_wp2_with fail
  go_ret;exact⟨rfl,rfl⟩
 ·have d0:decide (n<0)=false:=dF h0
  have d1:decide (n > 65536)=true:=dT (by omega);clear h h0;go_enter Tryz.func68,Tryz.ntmps68
  go_wp2_with fail
  go_ret;exact⟨rfl,rfl⟩
def eI (n:Int):dx:=⟨n,0,[],false,false,false,0⟩
theorem ba (n:Int) (h0:0<=n) (h1:n<=65536) (w:World):Calls Tryz.prog 68 #[.int .i64 n] w fun e w'=>e=.returned (.pointer (some ⟨w.heap.size,0,none⟩))/\w'=w.alloc (.cells ((eI n).row (.slice none 0 0)) 136):=by
 have d0:decide (n<0)=false:=dF (by omega);have d1:decide (n > 65536)=false:=dF (by omega);clear h0 h1;go_enter Tryz.func68,Tryz.ntmps68
 go_wp2_with fail
 go_ret;exact⟨rfl,rfl⟩
theorem dD {w:World} {g B:Nat} {v:Value} {s:dx} (h:bm w g B v s):Calls Tryz.prog 70 #[.pointer (some ⟨g,0,none⟩)] w fun e w'=>e=.returned (.bool s.whole)/\w=w':=by
 have a5:w.cell? ⟨g,5,none⟩=some (.bool s.whole):=h.b.cell 5;clear h;go_enter Tryz.func70,Tryz.ntmps70
 go_wp2_with fail
 go_ret;exact⟨rfl,rfl⟩
theorem lx {w:World} {g B:Nat} {v:Value} {s:dx} (h:bm w g B v s):Calls Tryz.prog 62 #[.pointer (some ⟨g,0,none⟩)] w fun e w'=>e=.returned (.bool s.within)/\w=w':=by
 have a3:w.cell? ⟨g,3,none⟩=some (.bool s.within):=h.b.cell 3;clear h;go_enter Tryz.func62,Tryz.ntmps62
 go_wp2_with fail
 go_ret;exact⟨rfl,rfl⟩
theorem cF {w:World} {g B:Nat} {v:Value} {s:dx} (h:bm w g B v s) (hw:s.whole=true):Calls Tryz.prog 72 #[.pointer (some ⟨g,0,none⟩)] w fun e w'=>e=.returned (.string (cD s.line))/\
 ∃v',bm w' g B v' { s with line:=[],whole:=false }/\aa (fun j=>j=g) w w'/\v'.ownBlock=v.ownBlock:=by
 obtain⟨L,S,Ln,Wi,Tu,Wh,E⟩:=s;simp only at hw;subst hw;obtain⟨p0,c0,hv0,ho0,hsl⟩:=h.o.cut;have a2:w.cell? ⟨g,2,none⟩=some v:=h.b.cell 2;have f2:w.frozen? ⟨g,2,none⟩=false:=h.b.froz 2;have a5:w.cell? ⟨g,5,none⟩=some (.bool true):=h.b.cell 5;have f5:w.frozen? ⟨g,5,none⟩=false:=h.b.froz 5;have hcv:=h.o.conv;have H:=lH h;have HW:=lH (dD h);have HV:=lH hv0;have HO:=lH ho0;clear h hv0 ho0;go_enter Tryz.func72,Tryz.ntmps72
 go_wp2_with (go_at_call 70;refine HW.out.mono ?_;rintro e1 w1 ⟨rfl,rfl⟩)
 go_ret;refine⟨rfl,.slice p0 0 c0,⟨(H.out.b.set 2 (.slice p0 0 c0)).set 5 (.bool false),ab HO.out (((aa.refl (fun j=>j=g) w).setCell (p:=⟨g,2,none⟩) rfl (.slice p0 0 c0)).setCell (p:=⟨g,5,none⟩) rfl (.bool false)) (fun k hk e=>absurd (H.out.o.lt k (HV.out▸hk)).1 (by have:=H.out.lt;omega)),H.out.lt,?_⟩,((aa.refl (fun j=>j=g) w).setCell (p:=⟨g,2,none⟩) rfl (.slice p0 0 c0)).setCell (p:=⟨g,5,none⟩) rfl (.bool false),HV.out⟩;have:=(((aa.refl (fun j=>j=g) w).setCell (p:=⟨g,2,none⟩) rfl (.slice p0 0 c0)).setCell (p:=⟨g,5,none⟩) rfl (.bool false)).size;exact nT H.out.sz this
end Go.Proofs.YthjbodpeckebiaaGreatDoor
-- BdP
namespace Go.Proofs.YthjbodpeckebiaaGreatDoor
open Go.RowKit
structure Pc where
 k:Int
 n:Int
 t:ByteArray
def ge (l:List Pc):List Value:=l.flatMap fun p=>[.int .i64 p.k,.int .i64 p.n,.string p.t]
theorem jf (a b:List Pc):ge (a++b)=ge a++ge b:=by unfold ge;rw[List.flatMap_append]
inductive Md where
 | nothing|sized|rest|size|data|cr|lf|trailer
structure Lm where
 head:Int
 fields:Int
 line:Int
 body:Int
 fold:Int
structure am where
 md:Md
 left:Int
 ln:dx
 all:List ByteArray
 tr:List Fd
 till:Bool
 over:Bool
 e:Int
 out:List Pc
def am.opens (s:am):Bool:=!s.over&&s.e==0
def am.put (s:am) (p:Pc):am:={ s with out:=s.out++[p] }
def am.wrong (s:am) (e:Int):am:=({ s with e:=e }).put ⟨5,e,⟨#[]⟩⟩
def am.ends (s:am):am:=({ s with over:=true }).put ⟨4,0,⟨#[]⟩⟩
def am.rest (s:am) (x:List UInt8):am:=s.put ⟨3,0,⟨x.toArray⟩⟩
def am.some (s:am) (x:List UInt8):am×Nat:=
 (({ s with left:=s.left - (min (x.length:Int) s.left) }).rest (x.take (min (x.length:Int) s.left).toNat),(min (x.length:Int) s.left).toNat)
def am.whole (s:am) (x:List UInt8):am×Nat×Bool:=
 let l:=ag x s.ln
 let s':am:={ s with ln:=l.1 }
 (if l.1.e=0 then s' else s'.wrong l.1.e,l.2,l.1.whole)
def cM (b:UInt8):Bool:=cK 16 b
def aQ (l:List UInt8):Int×Int:=
 if l=[] then (0,2)
 else if l.takeWhile cM=[] then (0,3)
 else match l.dropWhile cM with
  | []=>al (l.takeWhile cM) 16 2147483647
  | c :: r=>if (aF ⟨(120 :: c :: r).toArray⟩).2.2=0/\(c=59\/c=32\/c=9) then al (l.takeWhile cM) 16 2147483647 else (0,3)
def an (m:Lm) (s:am) (x:List UInt8):am×Nat:=
 match s.md with
 | .nothing=>(s,0)
 | .rest=>(s.rest x,x.length)
 | .sized=>
   let r:=s.some x
   (if r.1.left=0 then r.1.ends else r.1,r.2)
 | .data=>
   let r:=s.some x
   (if r.1.left=0 then { r.1 with md:=.cr } else r.1,r.2)
 | .cr=>if x.head? = some 13 then ({ s with md:=.lf },1) else (s.wrong 3,0)
 | .lf=>if x.head? = some 10 then ({ s with ln:=eI m.line,md:=.size },1) else (s.wrong 3,0)
 | .size=>
   let r:=s.whole x
   if r.2.2=false then (r.1,r.2.1)
   else
    let c:=aQ r.1.ln.line
    let s':am:={ r.1 with ln:={ r.1.ln with line:=[],whole:=false } }
    (if c.2≠0 then s'.wrong c.2 else if c.1=0 then { s' with ln:=eI m.head,md:=.trailer } else { (s'.put ⟨2,c.1,⟨#[]⟩⟩) with left:=c.1,md:=.data },r.2.1)
 | .trailer=>
   let r:=s.whole x
   if r.2.2=false then (r.1,r.2.1)
   else
    let line:=r.1.ln.line
    let s':am:={ r.1 with ln:={ r.1.ln with line:=[],whole:=false } }
    (
     if line≠[] then { s' with all:=s'.all++[cD line] }
     else
      let a:=bN m.fold s'.all
      if m.fields<(s'.all.length:Int) then s'.wrong 4 else if a.2≠0 then s'.wrong a.2 else ({ s' with tr:=a.1 }).ends,r.2.1)
def ig (m:Lm):Nat->am->List UInt8->am×Nat
 | 0,s,_=>(s,0)
 | f+1,s,x=>if x=[]\/s.opens=false then (s,0) else ((ig m f (an m s x).1 (x.drop (an m s x).2)).1,(an m s x).2+(ig m f (an m s x).1 (x.drop (an m s x).2)).2)
def jn (s:am):am:={ s with out:=[] }
def aZ (m:Lm) (kind len:Int):am:=
 let s:am:=⟨.nothing,len,eI m.line,[],[],false,false,0,[]⟩
 if len<0\/m.line<0\/65536<m.line\/m.head<0\/65536<m.head then s.wrong 1
 else if kind=0 then s.ends
 else if kind=1 then (if len=0 then ({ s with md:=.sized }).ends else { s with md:=.sized })
 else if kind=2 then { s with md:=.size }
 else if kind=3 then { s with md:=.rest,till:=true }
 else s.wrong 1
end Go.Proofs.YthjbodpeckebiaaGreatDoor
-- LnFeed
namespace Go.Proofs.YthjbodpeckebiaaGreatDoor
open Go.RowKit
structure eB (s:dx):Prop where
 l0:0<=s.left
 s0:0<=s.spent
 m:s.left+s.spent<=65536
 t:(s.line.length:Int)<=s.spent
theorem kH {s:dx} (h:eB s) (c:UInt8):eB (aW s c).1:=by
 obtain⟨h1,h2,h3,h4⟩:=h;unfold aW;repeat' split
 all_goals first
  | exact⟨h1,h2,h3,h4⟩
  | (constructor<;>simp<;>omega)
theorem kr {s:dx} (h:eB s) (e:Int):eB { s with e:=e }:=⟨h.l0,h.s0,h.m,h.t⟩
theorem dk:∀(l:List UInt8) (s:dx),eB s->eB (ag l s).1
 | [],s,h=>h
 | c :: r,s,h=>by
   rw[ag];split
   ·exact h
   split
   ·exact dk r _ (kr (kH h c) 0)
   ·exact kr (kH h c) _
theorem bm.setE {w:World} {g B:Nat} {v:Value} {s:dx} (h:bm w g B v s) (e:Int):bm (w.setCell ⟨g,6,none⟩ (.int .i64 e)) g B v { s with e:=e }:=by
 have T:=(aa.refl (fun j=>j=g) w).setCell (p:=⟨g,6,none⟩) rfl (.int .i64 e);exact⟨h.b.set 6 (.int .i64 e),ab h.o T (fun k hk e=>absurd (h.o.lt k hk).1 (by have:=h.lt;omega)),h.lt,nT h.sz T.size⟩
theorem bm.drewN {w:World} {g B:Nat} {v:Value} {s:dx} (h:bm w g B v s) (n:Nat):bm (w.drewN n) g B v s:=⟨h.b.drewN n,h.o,h.lt,h.sz⟩
def eM (g:Nat) (w:World):Nat:=match w.cell? ⟨g,6,none⟩ with
 | some (.int _ e)=>if e=0 then 1 else 0
 | _=>0
theorem tn {g:Nat} {w:World} (h:w.cell? ⟨g,6,none⟩=some (.int .i64 0)):eM g w=1:=by unfold eM;rw[h];rfl
theorem eM_0 {g:Nat} {w:World} {e:Int} (h:w.cell? ⟨g,6,none⟩=some (.int .i64 e)) (he:e≠0):eM g w=0:=by
 unfold eM;rw[h];exact if_neg he
theorem jN {w:World} {g B:Nat} {v:Value} {s:dx} (h:bm w g B v s) (hs:eB s) (S:ByteArray) (hS:S.size<=1000000):
 Calls Tryz.prog 69 #[.pointer (some ⟨g,0,none⟩),.string S] w fun e w'=>e=.returned (.tuple #[.int .i64 (ag S.data.toList s).2,.int .i64 (ag S.data.toList s).1.e])/\
  ∃v',bm w' g B v' (ag S.data.toList s).1/\aa (mb g v) w w'/\(v'.ownBlock=v.ownBlock\/∀k,v'.ownBlock=some k->w.heap.size<=k):=by
 obtain⟨R,hR⟩:∃R,R=ag S.data.toList s:=⟨_,rfl⟩;rw[<-hR];have H:=lH h;have HR:=lH hR;have HS:=lH hs;have hn:S.data.toList.length=S.size:=(Lib.size_eq S).symm;have HN:=lH hn;have HB:=lH (h.o.lt);clear h hR hs hn;go_enter Tryz.func69,Tryz.ntmps69
 go_wp2_with fail
 go_loopw [4] (fun u4 wr=>∃(k:Nat) (sk:dx) (vk:Value),k<=S.size/\u4=.int .i64 k/\bm wr g B vk sk/\eB sk/\R=((ag (S.data.toList.drop k) sk).1,k+(ag (S.data.toList.drop k) sk).2)/\aa (mb g v) w wr/\(vk.ownBlock=v.ownBlock\/∀j,vk.ownBlock=some j->w.heap.size<=j)) (fun u4 wr=>2*(S.size - (intOf u4).toNat)+eM g wr)
 case atStart=>exact⟨0,s,v,tX _,rfl,H.out,HS.out,by rw[HR.out,us,uJ],aa.refl _ _,Or.inl rfl⟩
 case round=>
  obtain⟨k,sk,vk,hk,rfl,hat,hok,hpre,htc,hbl⟩:=hrel;have HA:=lH hat;have HO:=lH hok;have HP:=lH hpre;have HT:=lH htc;have HL:=lH hbl;clear hpre htc hbl;obtain⟨WH,hWH⟩:∃b,b=sk.whole:=⟨_,rfl⟩;obtain⟨E,hE⟩:∃b,b=sk.e:=⟨_,rfl⟩;have a5:wr.cell? ⟨g,5,none⟩=some (.bool WH):=by rw[hWH];exact hat.b.cell 5
  have a6:wr.cell? ⟨g,6,none⟩=some (.int .i64 E):=by rw[hE];exact hat.b.cell 6
  have f6:wr.frozen? ⟨g,6,none⟩=false:=hat.b.froz 6;have HW:=lH hWH;have HE:=lH hE;clear hWH hE hat hok;by_cases hlt:k<S.size
  ·have hk1:decide ((k:Int)<(S.size:Int))=true:=dT (by omega)
   cases WH with
   | true=>
     have hfin:R=(sk,k):=by rw[HP.out,cw _ _ (Or.inl HW.out.symm)];rfl
     have HF:=lH hfin;clear hfin;go_wp2_with fail
     refine aP (by kernel_rfl) (by kernel_rfl) ?_;repeat go_big_quiet_step (fail)
     refine uE ?_;rintro _ ⟨nq,rfl⟩;go_wp2_with fail
     go_ret2
     exact⟨by rw[HF.out,<-HE.out];rfl,vk,by rw[HF.out];exact HA.out.drewN nq,HT.out.drewN nq,HL.out⟩
   | false=>
     by_cases he:E=0
     ·subst he
      obtain⟨c,hc⟩:∃c,S.data.toList[k]? = some c:=⟨_,tW (by have:=HN.out;omega)⟩
      have hbt:bt S k=c.toNat:=by
       unfold bt;rw[dif_pos hlt];have:S.data.toList[k]? = some S[k]:=by rw[tW (by have:=HN.out;omega)];rfl
       rw[this] at hc;injection hc with hc
       rw[hc]
      have hix:∀W:World,(Instr.index 9 (.string S) (.int .i64 (k:Int))).run Tryz.prog W=.ok (.int .u8 (bt S k)) W:=ar S k hlt;obtain⟨x,hx⟩:∃x:Int,x=bt S k:=⟨_,rfl⟩;rw[<-hx] at hix hbt;obtain⟨q,hq⟩:∃q,q=aW sk c:=⟨_,rfl⟩
      have hstep:ag (S.data.toList.drop k) sk=if q.2=0 then ((ag (S.data.toList.drop (k+1)) { q.1 with e:=0 }).1,(ag (S.data.toList.drop (k+1)) { q.1 with e:=0 }).2+1) else ({ q.1 with e:=q.2 },0):=by
       have hkl:k<S.data.toList.length:=by have:=HN.out;omega
       have:S.data.toList[k]=c:=by rw[tW hkl] at hc;injection hc
       rw[un hkl,this,ag,if_neg (by rw[<-HW.out,<-HE.out];simp),<-hq]
      have HST:=lH hstep;have HQ:=lH (show eB q.1 by rw[hq];exact kH HO.out c);have HSEE:=lH (sC HA.out c x hbt HO.out.l0 (by have:=HO.out.m;have:=HO.out.s0;omega) HO.out.s0 (by have:=HO.out.m;have:=HO.out.l0;omega) (by have:=HO.out.t;have:=HO.out.m;have:=HO.out.l0;omega));rw[<-hq] at HSEE;clear hstep hq hbt hx hc;obtain⟨q1,q2⟩:=q;by_cases h0:q2=0
      ·subst h0
       go_wp2_with (go_at_call 88;refine HSEE.out.mono ?_;rintro e' w3 ⟨rfl,v3,hat3,ht3,hb3⟩;have f6:w3.frozen? ⟨g,6,none⟩=false:=hat3.b.froz 6;have a6:w3.cell? ⟨g,6,none⟩=some (.int .i64 q1.e):=hat3.b.cell 6;have HA3:=lH hat3;have HT3:=lH ht3;have HB3:=lH hb3;clear hat3 ht3 hb3)
       go_roundw
       case rel=>
        refine⟨k+1,{ q1 with e:=0 },v3,hlt,by go_num,HA3.out.setE 0,kr HQ.out 0,?_,?_,?_⟩
        ·rw[HP.out,HST.out,if_pos trivial]
         refine Prod.ext rfl ?_;show k+(_+1)=k+1+_;omega
        ·refine aA HT.out (HT3.out.setCell (p:=⟨g,6,none⟩) (Or.inl rfl) _) (fun i hi hp=>?_)
         rcases hp with hp|hp
         ·exact Or.inl hp
         ·rcases HL.out with hl|hl
          ·exact Or.inr (hl▸hp)
          ·exact absurd (hl i hp) (by omega)
        ·rcases HB3.out with hb|hb
         ·rw[hb];exact HL.out
         ·exact Or.inr (fun j hj=>nT HT.out.size (hb j hj))
       case measure=>
        rw[tn ((HA.out.b.cell 6).trans (by show some (Value.int .i64 sk.e)=_;rw[<-HE.out])),tn ((HA3.out.setE 0).b.cell 6)];simp[intOf];omega
      ·have h1:(q2==0)=false:=by rw[tT];exact h0
       have H0:=lH h0;clear h0;go_wp2_with (go_at_call 88;refine HSEE.out.mono ?_;rintro e' w3 ⟨rfl,v3,hat3,ht3,hb3⟩;have f6:w3.frozen? ⟨g,6,none⟩=false:=hat3.b.froz 6;have a6:w3.cell? ⟨g,6,none⟩=some (.int .i64 q1.e):=hat3.b.cell 6;have HA3:=lH hat3;have HT3:=lH ht3;have HB3:=lH hb3;clear hat3 ht3 hb3)
       go_roundw
       case rel=>
        refine⟨k,{ q1 with e:=q2 },v3,hk,rfl,HA3.out.setE q2,kr HQ.out q2,?_,?_,?_⟩
        ·rw[HP.out,HST.out,if_neg H0.out,cw _ _ (Or.inr H0.out)]
        ·refine aA HT.out (HT3.out.setCell (p:=⟨g,6,none⟩) (Or.inl rfl) _) (fun i hi hp=>?_)
         rcases hp with hp|hp
         ·exact Or.inl hp
         ·rcases HL.out with hl|hl
          ·exact Or.inr (hl▸hp)
          ·exact absurd (hl i hp) (by omega)
        ·rcases HB3.out with hb|hb
         ·rw[hb];exact HL.out
         ·exact Or.inr (fun j hj=>nT HT.out.size (hb j hj))
       case measure=>
        rw[tn ((HA.out.b.cell 6).trans (by show some (Value.int .i64 sk.e)=_;rw[<-HE.out])),eM_0 ((HA3.out.setE q2).b.cell 6) H0.out];simp[intOf]
     ·have h1:(E==0)=false:=by rw[tT];exact he
      have hfin:R=(sk,k):=by rw[HP.out,cw _ _ (Or.inr (HE.out▸he))];rfl
      have HF:=lH hfin;clear hfin;go_wp2_with fail
      refine aP (by kernel_rfl) (by kernel_rfl) ?_;repeat go_big_quiet_step (fail)
      refine uE ?_;rintro _ ⟨nq,rfl⟩;go_wp2_with fail
      go_ret2
      exact⟨by rw[HF.out,<-HE.out];rfl,vk,by rw[HF.out];exact HA.out.drewN nq,HT.out.drewN nq,HL.out⟩
  ·have hk1:decide ((k:Int)<(S.size:Int))=false:=dF (by omega)
   have hfin:R=(sk,k):=by
    rw[HP.out,ug (by have:=HN.out;omega)];rfl
   have HF:=lH hfin;clear hfin;go_wp2_with fail
   refine aP (by kernel_rfl) (by kernel_rfl) ?_;repeat go_big_quiet_step (fail)
   refine uE ?_;rintro _ ⟨nq,rfl⟩;go_wp2_with fail
   go_ret2
   exact⟨by rw[HF.out,<-HE.out];rfl,vk,by rw[HF.out];exact HA.out.drewN nq,HT.out.drewN nq,HL.out⟩
end Go.Proofs.YthjbodpeckebiaaGreatDoor
-- PaAt
namespace Go.Proofs.YthjbodpeckebiaaGreatDoor
open Go.RowKit
theorem bm.touch {P:Nat->Prop} {w w1:World} {g B:Nat} {v:Value} {s:dx} (h:bm w g B v s) (t:aa P w w1) (hg:¬P g) (hv:∀k,v.ownBlock=some k->¬P k):bm w1 g B v s:=
 ⟨h.b.touch t hg,ab h.o t hv,h.lt,nT h.sz t.size⟩
theorem eW {P:Nat->Prop} {w w1:World} {p:Addr} {v:Value} (h:aa P w w1) (hp:¬P p.block) (hc:w.cell? p=some v):w1.cell? p=some v:=by
 have hlt:=t8 w p hc;rw[<-hc];unfold World.cell?;rw[h.block p.block hlt hp]
def dP (g:Nat) (va vf:Value) (kind a fields c d fold:Int) (p:cY):Array Value:=#[.pointer (some ⟨g,0,none⟩),.int .i64 kind,.int .i64 a,.int .i64 fields,.int .i64 c,.int .i64 d,.int .i64 fold,va,.bool p.fin,.string p.hd.m,.string p.hd.t,.int .i64 p.hd.k,.int .i64 p.hd.n,.string p.hd.r,vf,.int .i64 p.e]
structure aI (w:World) (b g B:Nat) (vl va vf:Value) (kind a fields c d fold:Int) (p:cY):Prop where
 k:ac w b (dP g va vf kind a fields c d fold p) 114
 l:bm w g B vl p.ln
 o:ao w B va p.all
 f:aj w B vf p.hd.fs
 z:p.fin=false->vf=aG/\p.hd=cR
 lt:b<B
 ne:b≠g
 b0:0<b
 g0:0<g
 n:∀k,vl.ownBlock=some k->va.ownBlock≠some k
theorem ao.lt {w:World} {B:Nat} {v:Value} {l:List ByteArray} (h:ao w B v l):∀k,v.ownBlock=some k->B<=k/\k<w.heap.size:=by
 intro k hk;obtain⟨_,h2⟩:=h;rcases h2 with ⟨rfl,_⟩|⟨g',cap,cur,rfl,hB,hg,_⟩
 ·cases hk
 ·have:g'=k:=by injection hk
  subst this;exact⟨hB,(ua.1 hg).1⟩
theorem aj.lt {w:World} {B:Nat} {v:Value} {l:List Fd} (h:aj w B v l):∀k,v.ownBlock=some k->B<=k/\k<w.heap.size:=by
 intro k hk;obtain⟨_,h2⟩:=h;rcases h2 with ⟨rfl,_⟩|⟨g',cap,cur,rfl,hB,hg,_⟩
 ·cases hk
 ·have:g'=k:=by injection hk
  subst this;exact⟨hB,(ua.1 hg).1⟩
theorem ao.capok {w:World} {B:Nat} {v:Value} {l:List ByteArray} (h:ao w B v l):sO v:=by
 obtain⟨_,h2⟩:=h;rcases h2 with ⟨rfl,_⟩|⟨g',cap,cur,rfl,hB,hg,h3,_⟩
 ·exact nR _
 ·exact h3
def mc (b g:Nat) (vl va:Value) (j:Nat):Prop:=j=b\/j=g\/vl.ownBlock=some j\/va.ownBlock=some j
theorem aI.drew {w:World} {b g B:Nat} {vl va vf:Value} {kind a fields c d fold:Int} {p:cY} (h:aI w b g B vl va vf kind a fields c d fold p):aI w.drew b g B vl va vf kind a fields c d fold p:=⟨h.k.drew,h.l.drew,h.o,h.f,h.z,h.lt,h.ne,h.b0,h.g0,h.n⟩
theorem aI.touch {P:Nat->Prop} {w w1:World} {b g B:Nat} {vl va vf:Value} {kind a fields c d fold:Int} {p:cY} (h:aI w b g B vl va vf kind a fields c d fold p) (t:aa P w w1) (hb:¬P b) (hg:¬P g) (hB:∀k,B<=k->¬P k):aI w1 b g B vl va vf kind a fields c d fold p:=
 ⟨h.k.touch t hb,h.l.touch t hg (fun k hk=>hB k (h.l.o.lt k hk).1),ab h.o t (fun k hk=>hB k (h.o.lt k hk).1),ab h.f t (fun k hk=>hB k (h.f.lt k hk).1),h.z,h.lt,h.ne,h.b0,h.g0,h.n⟩
theorem mX {w:World} {b g B:Nat} {vl va vf:Value} {kind a fields c d fold:Int} {p:cY} (h:aI w b g B vl va vf kind a fields c d fold p) (hf:p.fin=false) (s:ByteArray) (hs:s.size≠0) (hl:p.all.length<=100000):
 Calls Tryz.prog 71 #[.pointer (some ⟨b,0,none⟩),.string s] w fun e w'=>e=.returned (.tuple #[])/\∃va',aI w' b g B vl va' vf kind a fields c d fold { p with all:=p.all++[s] }/\aa (mc b g vl va) w w'/\(va'.ownBlock=va.ownBlock\/∀k,va'.ownBlock=some k->w.heap.size<=k):=by
 have a7:w.cell? ⟨b,7,none⟩=some va:=h.k.cell 7
 have he:s.toList.isEmpty=false:=by
  rw[af];have:s.data.toList.length≠0:=by rw[<-Lib.size_eq];exact hs
  cases e:s.data.toList with
  | nil=>rw[e] at this;exact absurd rfl this
  | cons x r=>rfl
 have H:=lH h;have HF:=lH hf;have HLL:=lH hl;clear h hs hf hl;go_enter Tryz.func71,Tryz.ntmps71
 go_wp2_with (at_builtin;refine dr rfl _ _ rfl rfl H.out.o s rfl (nT HLL.out (by decide)) H.out.l.sz ?_;intro g1 c1 w1 ho1 ht1 hg1;have b1:ac w1 b _ _:=H.out.k.touch ht1 (fun e=>absurd (H.out.o.lt b e).1 (by have:=H.out.lt;omega));have a7:w1.cell? ⟨b,7,none⟩=some va:=b1.cell 7;have f7:w1.frozen? ⟨b,7,none⟩=false:=b1.froz 7;have B1:=lH b1;have HO1:=lH ho1;have HG1:Hid (va.ownBlock=some g1\/w.heap.size<=g1):=hg1;have HT1:Hid (aa (fun j=>va.ownBlock=some j) w w1):=ht1;clear b1 ho1 ht1 hg1)
 go_end0
 have hb:=H.out.lt;have hsz:=H.out.l.sz;have T1:aa (mc b g vl va) w1 (w1.setCell ⟨b,7,none⟩ (.slice (some ⟨g1,0,none⟩) (p.all.length+1) c1)):=(aa.refl _ w1).setCell (p:=⟨b,7,none⟩) (Or.inl rfl) _;have T2:aa (fun j=>j=b) w1 (w1.setCell ⟨b,7,none⟩ (.slice (some ⟨g1,0,none⟩) (p.all.length+1) c1)):=(aa.refl (fun j=>j=b) w1).setCell (p:=⟨b,7,none⟩) rfl _;have hB:∀k,B<=k->¬k=b:=fun k hk e=>by omega
 have hlw:bm w1 g B vl p.ln:=H.out.l.touch HT1.out (fun e=>absurd (H.out.o.lt g e).1 (by have:=H.out.l.lt;omega)) (fun k hk e=>H.out.n k hk e);have hof:vf=aG:=(H.out.z HF.out).1;have hh0:p.hd=cR:=(H.out.z HF.out).2;refine⟨rfl,.slice (some ⟨g1,0,none⟩) (p.all.length+1) c1,⟨B1.out.set 7 _,hlw.touch T2 (fun e=>H.out.ne e.symm) (fun k hk=>hB k (H.out.l.o.lt k hk).1),ab (v:=.slice (some ⟨g1,0,none⟩) (p.all.length+1) c1) (show World.ownsRow w1 B 9 1 _ _ _ from HO1.out) T2 (fun k hk=>hB k (ao.lt HO1.out k hk).1),by subst hof;rw[show ({ p with all:=p.all++[s] }:cY).hd=cR from hh0];exact aj.start _ _,fun _=>⟨hof,hh0⟩,hb,H.out.ne,H.out.b0,H.out.g0,?_⟩,(HT1.out.mono (fun k _ hk=>Or.inr (Or.inr (Or.inr hk)))).trans T1,?_⟩
 ·intro k hk e
  have e1:g1=k:=by injection e
  rcases HG1.out with hg|hg
  ·exact H.out.n k hk (by rw[hg,e1])
  ·have:=(H.out.l.o.lt k hk).2
   omega
 ·rcases HG1.out with hg|hg
  ·left;rw[hg];rfl
  ·right
   intro k hk;have e1:g1=k:=by injection hk
   rw[<-e1];exact hg
theorem mW {w:World} {b g B:Nat} {vl va vf:Value} {kind a fields c d fold:Int} {p:cY} (h:aI w b g B vl va vf kind a fields c d fold p) (hl:p.all=[]) (hk:kind≠2):
 Calls Tryz.prog 71 #[.pointer (some ⟨b,0,none⟩),.string ⟨#[]⟩] w fun e w'=>e=.returned (.tuple #[])/\w'=w:=by
 have a7:w.cell? ⟨b,7,none⟩=some va:=h.k.cell 7;have a1:w.cell? ⟨b,1,none⟩=some (.int .i64 kind):=h.k.cell 1;have he:(⟨#[]⟩:ByteArray).toList.isEmpty=true:=by rw[af];rfl
 have hk2:(kind==2)=false:=by rw[tT];exact hk
 obtain⟨pp,cc,hsh⟩:=h.o.shape;rw[hl] at hsh;rw[hsh] at a7;clear h hl hk hsh;go_enter Tryz.func71,Tryz.ntmps71
 go_wp2_with fail
 go_end0
 exact⟨rfl,rfl⟩
end Go.Proofs.YthjbodpeckebiaaGreatDoor
-- BdA
namespace Go.Proofs.YthjbodpeckebiaaGreatDoor
open Go.RowKit
theorem aN {w:World} {B:Nat} {e:TypeId} {size n:Nat} {v:Value} {xs:List Value} (h:w.ownsRow B e size v n xs):∀k,v.ownBlock=some k->B<=k/\∃cs,ac w k cs e:=by
 intro k hk;obtain⟨_,h⟩:=h;rcases h with ⟨rfl,_⟩|⟨g,cap,cur,rfl,hB,hg,_⟩
 ·cases hk
 ·cases hk
  exact⟨hB,cur,hg⟩
def bZ (w:World) (P:Nat->Prop) (l:List TypeId):Prop:=∀j,P j->∃cs t,t∈l/\ac w j cs t
theorem bZ.not {w:World} {P:Nat->Prop} {l:List TypeId} (h:bZ w P l) {k:Nat} {cs:Array Value} {t:TypeId} (hb:ac w k cs t) (ht:t∉l):¬P k:=by
 intro hp;obtain⟨cs',t',hm,hb'⟩:=h k hp;exact hb.ne hb' (fun e=>ht (e▸hm)) rfl
theorem bZ.own {w:World} {P:Nat->Prop} {l:List TypeId} (h:bZ w P l) {B:Nat} {e:TypeId} {size n:Nat} {v:Value} {xs:List Value} (hr:w.ownsRow B e size v n xs) (ht:e∉l):∀k,v.ownBlock=some k->¬P k:=fun k hk=>by
 obtain⟨_,cs,hb⟩:=aN hr k hk;exact h.not hb ht
def aU (w:World) (B:Nat) (v:Value) (l:List Pc):Prop:=w.ownsRow B 80 3 v l.length (ge l)
theorem aU.start (w:World) (B:Nat):aU w B (.slice none 0 0) []:=uz _ _ _ _
theorem mJ:(Tryz.prog.info? 80).map (fun i=>(i.zero,i.size,i.bytes))=some (some (.agg #[.int .i64 0,.int .i64 0,.string ⟨#[]⟩]),3,32):=by kernel_rfl
theorem fG {ops:Array Oper} {o:Oper} {a:Act} {K:Act->World->Prop} {Q:Exit->Act->World->Prop} {E:Prop} (hgd:o.guard=none) (s x:Operand)
 (ho:o.op=.call { callee:=.builtin .append,args:=#[s,x],argTypes:=#[55,55] }) {w:World} {B:Nat} {v:Value} {l:List Pc} (hs:a.eval s=v) (hown:aU w B v l) (p:Pc)
 (g:Nat) (hg:ac w g #[.int .i64 p.k,.int .i64 p.n,.string p.t] 80) (hx:a.eval x=.slice (some ⟨g,0,none⟩) 1 1) (hl:l.length<=1000000) (hB:B<=w.heap.size)
 (h:∀g1 c w1,aU w1 B (.slice (some ⟨g1,0,none⟩) (l.length+1) c) (l++[p])->aa (fun j=>v.ownBlock=some j) w w1->(v.ownBlock=some g1\/w.heap.size<=g1)->K (a.put o.dst (.slice (some ⟨g1,0,none⟩) (l.length+1) c)) w1):
 if Region.wanted o (yielded ops a.tmps)=true then Oper.wp Tryz.prog o a w K Q else E:=by
 obtain⟨i0,hi,hz0,hz1,hz2⟩:=info_parts mJ;refine step_append_lies _ hgd s x 55 ho B 80 i0 _ 3 32 Tryz.underlying55 hi hz0 hz1 hz2 rfl (by decide) v l.length _ hs hown ⟨g,0,none⟩ 1 1 [.int .i64 p.k,.int .i64 p.n,.string p.t] hx rfl ?c1 ?c2 (by decide) ?c3 ?c4 hB _ rfl ?_;case c1=>exact World.news_of_block (cs:=#[.int .i64 p.k,.int .i64 p.n,.string p.t]) (t:=80) (fr:=(0,0)) hg
 case c2=>intro u hu;simp at hu;rcases hu with rfl|rfl|rfl<;>rfl
 case c3=>unfold maxLen;omega
 case c4=>omega
 intro g1 c w1 hown1 hgr hat _;refine h g1 c w1 ?_ ?_ ?_
 ·show w1.ownsRow B 80 3 _ (l++[p]).length (ge (l++[p]))
  rw[ue,jf];exact hown1
 ·exact⟨hgr.os,hgr.tape,hgr.output,hgr.size,fun k hk hne=>hgr.block k hk (fun e=>hne e.symm)⟩
 ·rcases hat with h1|h1
  ·exact Or.inl h1
  ·right;omega
structure bh where
 gl:Nat
 vl:Value
 vn:Value
 vo:Value
 vp:Value
 va:Value
 vt:Value
def cy (m:Lm) (s:am) (V:bh):Array Value:=
 #[.int .i64 m.head,.int .i64 m.fields,.int .i64 m.line,.int .i64 m.body,.int .i64 m.fold,V.vn,V.vo,.int .i64 s.left,V.vp,V.va,V.vt,.bool s.till,.bool s.over,.int .i64 s.e]
def bF (w:World) (D:Nat) (c:Int) (f:Value) (v:Value):Prop:=∃bc bd bt,v=.func (.func 154) #[] #[.pointer (some ⟨bc,0,none⟩),.pointer (some ⟨bd,0,none⟩),.pointer (some ⟨bt,0,none⟩)]/\
 ac w bc #[.int .u8 c] 5/\ac w bd #[.pointer (some ⟨D,0,none⟩)] 86/\ac w bt #[f] 20
def mj (D:Nat):Value:=.func (.func 119) #[.pointer (some ⟨D,0,none⟩)] #[]
def ob (w:World) (D:Nat) (v:Value):Prop:=bF w D 10 (.iface 1 (mj D)) v
def cX (w:World) (D:Nat) (md:Md) (v:Value):Prop:=
 match md with
 | .nothing=>v=.func (.func 75) #[.pointer (some ⟨D,0,none⟩)] #[]
 | .sized=>v=.func (.func 77) #[.pointer (some ⟨D,0,none⟩)] #[]
 | .rest=>v=.func (.func 79) #[.pointer (some ⟨D,0,none⟩)] #[]
 | .size=>v=.func (.func 78) #[.pointer (some ⟨D,0,none⟩)] #[]
 | .data=>v=.func (.func 97) #[.pointer (some ⟨D,0,none⟩)] #[]
 | .trailer=>v=.func (.func 96) #[.pointer (some ⟨D,0,none⟩)] #[]
 | .lf=>ob w D v
 | .cr=>∃lf,bF w D 13 (.iface 115 lf) v/\ob w D lf
theorem bF.touch {P:Nat->Prop} {w w1:World} {D:Nat} {c:Int} {f v:Value} (h:bF w D c f v) (t:aa P w w1) {l:List TypeId} (hP:bZ w P l) (h1:5∉l) (h2:86∉l) (h3:20∉l):bF w1 D c f v:=by
 obtain⟨bc,bd,bt,hv,k1,k2,k3⟩:=h;exact⟨bc,bd,bt,hv,k1.touch t (hP.not k1 h1),k2.touch t (hP.not k2 h2),k3.touch t (hP.not k3 h3)⟩
theorem cX.touch {P:Nat->Prop} {w w1:World} {D:Nat} {md:Md} {v:Value} (h:cX w D md v) (t:aa P w w1) {l:List TypeId} (hP:bZ w P l) (h1:5∉l) (h2:86∉l) (h3:20∉l):cX w1 D md v:=by
 cases md
 case cr=>
  obtain⟨lf,k1,k2⟩:=h;exact⟨lf,bF.touch k1 t hP h1 h2 h3,bF.touch k2 t hP h1 h2 h3⟩
 case lf=>exact bF.touch h t hP h1 h2 h3
 all_goals exact h
def Md.lined:Md->Bool
 | .size=>true
 | .trailer=>true
 | _=>false
structure qj (w:World) (n0:Nat) (s:am) (V:bh):Prop where
 p:V.vp=.pointer (some ⟨V.gl,0,none⟩)
 n:n0<=V.gl
 l:bm w V.gl (V.gl+1) V.vl s.ln
def fS (D:Nat) (V:bh) (j:Nat):Prop:=j=D\/V.vo.ownBlock=some j\/V.va.ownBlock=some j\/j=V.gl\/V.vl.ownBlock=some j
def am.lined (s:am):Bool:=s.opens&&s.md.lined
def Fun (v:Value):Prop:=∃f a c,v=.func f a c
theorem cX.fun {w:World} {D:Nat} {md:Md} {v:Value} (h:cX w D md v):Fun v:=by
 cases md
 case cr=>
  obtain⟨lf,⟨_,_,_,k,_⟩,_⟩:=h;exact⟨_,_,_,k⟩
 case lf=>
  obtain⟨_,_,_,k,_⟩:=h;exact⟨_,_,_,k⟩
 all_goals exact⟨_,_,_,h⟩
structure fU (w:World) (D n0:Nat) (s:am) (V:bh):Prop where
 a:ao w n0 V.va s.all
 t:aj w n0 V.vt s.tr
 n:s.opens=true->cX w D s.md V.vn
 l:s.lined=true->qj w n0 s V
 u:s.lined=false->V.gl=D/\V.vl=.slice none 0 0
 f:Fun V.vn
structure ah (w:World) (D n0:Nat) (m:Lm) (s:am) (V:bh):Prop where
 k:ac w D (cy m s V) 117
 d:n0<=D
 o:aU w n0 V.vo s.out
 r:fU w D n0 s V
structure ap (w w1:World) (D:Nat) (V V1:bh):Prop where
 t:aa (fS D V) w w1
 s:∀j,j<w.heap.size->fS D V1 j->fS D V j
theorem ap.refl (w:World) (D:Nat) (V:bh):ap w w D V V:=⟨aa.refl _ _,fun _ _ h=>h⟩
theorem ap.trans {w w1 w2:World} {D:Nat} {V V1 V2:bh} (h:ap w w1 D V V1) (k:ap w1 w2 D V1 V2):ap w w2 D V V2:=
 ⟨aA h.t k.t h.s,fun j hj e=>h.s j hj (k.s j (uD hj h.t.size) e)⟩
theorem ap.of_below {w w1:World} {D:Nat} {V:bh} (hb:Below w.heap.size w w1):ap w w1 D V V:=⟨aa.of_below hb,fun _ _ h=>h⟩
theorem qj.touch {P:Nat->Prop} {w w1:World} {n0:Nat} {s:am} {V:bh} (h:qj w n0 s V) (t:aa P w w1) {l:List TypeId} (hP:bZ w P l) (h1:5∉l) (h2:136∉l):qj w1 n0 s V:=
 ⟨h.p,h.n,h.l.touch t (hP.not h.l.b h2) (hP.own h.l.o h1)⟩
theorem fU.touch {P:Nat->Prop} {w w1:World} {D n0:Nat} {s:am} {V:bh} (h:fU w D n0 s V) (t:aa P w w1) (hP:bZ w P [117,80]):fU w1 D n0 s V:=
 ⟨ab h.a t (hP.own h.a (by decide)),ab h.t t (hP.own h.t (by decide)),fun e=>(h.n e).touch t hP (by decide) (by decide) (by decide),fun e=>(h.l e).touch t hP (by decide) (by decide),h.u,h.f⟩
theorem ah.call {w w1:World} {D n0:Nat} {m:Lm} {s:am} {V:bh} (h:ah w D n0 m s V) (hb:Below w.heap.size w w1):ah w1 D n0 m s V:=by
 have t:aa (fun _=>False) w w1:=aa.of_below hb;have hP:bZ w (fun _=>False) [117,80]:=fun _ h=>h.elim;exact⟨h.k.touch t id,h.d,ab h.o t (fun _ _=>id),h.r.touch t hP⟩
theorem ah.drew {w:World} {D n0:Nat} {m:Lm} {s:am} {V:bh} (h:ah w D n0 m s V):ah w.drew D n0 m s V:=h.call (tU _ _).drew
theorem ah.alloc {w:World} {D n0:Nat} {m:Lm} {s:am} {V:bh} (h:ah w D n0 m s V) (o:Obj):ah (w.alloc o) D n0 m s V:=h.call ((tU _ _).alloc (nR _) o)
theorem ah.size {w:World} {D n0:Nat} {m:Lm} {s:am} {V:bh} (h:ah w D n0 m s V):n0<=w.heap.size:=nT h.d (Nat.le_of_lt h.k.lt)
theorem ah.ty {w:World} {D n0:Nat} {m:Lm} {s:am} {V:bh} (h:ah w D n0 m s V) {j:Nat} (hj:fS D V j):n0<=j/\∃cs t,ac w j cs t/\(V.vo.ownBlock=some j\/t≠80)/\t∈[117,80,9,136,5]:=by
 have hD:n0<=D/\∃cs t,ac w D cs t/\(V.vo.ownBlock=some D\/t≠80)/\t∈[117,80,9,136,5]:=⟨h.d,_,_,h.k,Or.inr (by decide),by decide⟩;rcases hj with rfl|hj|hj|hj|hj
 ·exact hD
 ·obtain⟨h1,cs,hb⟩:=aN h.o j hj
  exact⟨h1,cs,_,hb,Or.inl hj,by decide⟩
 ·obtain⟨h1,cs,hb⟩:=aN h.r.a j hj
  exact⟨h1,cs,_,hb,Or.inr (by decide),by decide⟩
 ·cases hl:s.lined with
  | true=>subst hj;exact⟨(h.r.l hl).n,_,_,(h.r.l hl).l.b,Or.inr (by decide),by decide⟩
  | false=>rw[hj,(h.r.u hl).1];exact hD
 ·cases hl:s.lined with
  | true=>
    obtain⟨h1,cs,hb⟩:=aN (h.r.l hl).l.o j hj;have:=(h.r.l hl).n;exact⟨by omega,cs,_,hb,Or.inr (by decide),by decide⟩
  | false=>rw[(h.r.u hl).2] at hj;cases hj
theorem ah.far {w:World} {D n0:Nat} {m:Lm} {s:am} {V:bh} (h:ah w D n0 m s V) {j:Nat} {cs:Array Value} {t:TypeId} (hb:ac w j cs t) (ht:t∉[117,80,9,136,5]):¬fS D V j:=fun hj=>by
 obtain⟨_,cs',t',hb',_,hm⟩:=h.ty hj;exact hb.ne hb' (fun e=>ht (e▸hm)) rfl
theorem ah.farPc {w:World} {D n0:Nat} {m:Lm} {s:am} {V:bh} (h:ah w D n0 m s V) {j:Nat} {cs:Array Value} (hb:ac w j cs 80) (ht:V.vo.ownBlock≠some j):¬fS D V j:=fun hj=>by
 obtain⟨_,cs',t',hb',hm,_⟩:=h.ty hj;rcases hm with hm|hm
 ·exact ht hm
 ·exact hb.ne hb' (fun e=>hm e.symm) rfl
theorem ah.below {w w1:World} {D n0:Nat} {m:Lm} {s:am} {V V1:bh} (h:ah w D n0 m s V) (g:ap w w1 D V V1):Below n0 w w1:=g.t.below (fun _ _ hk=>(h.ty hk).1) h.size
theorem ah.ofD {w:World} {D n0:Nat} {m:Lm} {s:am} {V:bh} (h:ah w D n0 m s V):bZ w (fun j=>j=D) [117,80]:=fun j e=>⟨_,_,vj,e▸h.k⟩
theorem aO (w:World) (D i:Nat) (u:Value):aa (fun j=>j=D) w (w.setCell ⟨D,i,none⟩ u):=(aa.refl (fun j=>j=D) w).setCell (p:=⟨D,i,none⟩) rfl u
theorem ah.set {w:World} {D n0:Nat} {m:Lm} {s:am} {V:bh} (h:ah w D n0 m s V) (i:Nat) (u:Value) {s':am} {V':bh} (hr:cy m s' V'=(cy m s V).setIfInBounds i u) (ho:s'.out=s.out) (hvo:V'.vo=V.vo) (ha:s'.all=s.all) (hva:V'.va=V.va) (ht:s'.tr=s.tr) (hvt:V'.vt=V.vt)
 (hn:s'.opens=true->cX (w.setCell ⟨D,i,none⟩ u) D s'.md V'.vn) (hl:s'.lined=true->qj (w.setCell ⟨D,i,none⟩ u) n0 s' V') (hu:s'.lined=false->V'.gl=D/\V'.vl=.slice none 0 0) (hf:Fun V'.vn):ah (w.setCell ⟨D,i,none⟩ u) D n0 m s' V':=by
 have T:=aO w D i u;refine⟨hr▸h.k.set i u,h.d,?_,⟨?_,?_,hn,hl,hu,hf⟩⟩
 ·rw[ho,hvo];exact ab h.o T (fun k hk e=>by obtain⟨_,cs,hb⟩:=aN h.o k hk;exact h.k.ne hb (by decide) e.symm)
 ·rw[ha,hva];exact ab h.r.a T (h.ofD.own h.r.a (by decide))
 ·rw[ht,hvt];exact ab h.r.t T (h.ofD.own h.r.t (by decide))
def bh.shut (V:bh) (D:Nat):bh:={ V with gl:=D,vl:=.slice none 0 0 }
theorem fS.shut {D:Nat} {V:bh} {j:Nat} (h:fS D (V.shut D) j):fS D V j:=by
 rcases h with h|h|h|h|h
 ·exact Or.inl h
 ·exact Or.inr (Or.inl h)
 ·exact Or.inr (Or.inr (Or.inl h))
 ·exact Or.inl h
 ·cases h
end Go.Proofs.YthjbodpeckebiaaGreatDoor
-- BdB
namespace Go.Proofs.YthjbodpeckebiaaGreatDoor
open Go.RowKit
theorem fU.put {w w1:World} {D n0:Nat} {m:Lm} {s:am} {V:bh} {p:Pc} (h:fU w D n0 s V) (hd:n0<=D) {vo:Value} (k:ac w1 D (cy m (s.put p) { V with vo:=vo }) 117) (o:aU w1 n0 vo (s.out++[p]))
 {P:Nat->Prop} (t:aa P w w1) (hP:bZ w P [117,80]):ah w1 D n0 m (s.put p) { V with vo:=vo }:=
 ⟨k,hd,o,⟨(h.touch t hP).a,(h.touch t hP).t,(h.touch t hP).n,fun e=>⟨((h.touch t hP).l e).p,((h.touch t hP).l e).n,((h.touch t hP).l e).l⟩,(h.touch t hP).u,h.f⟩⟩
theorem bk {w:World} {D n0:Nat} {m:Lm} {s:am} {V:bh} (h:ah w D n0 m s V) (hl:s.out.length<=1000000) (p:Pc):
 Calls Tryz.prog 80 #[.pointer (some ⟨D,0,none⟩),.agg #[.int .i64 p.k,.int .i64 p.n,.string p.t]] w fun e w'=>e=.returned (.tuple #[])/\∃vo,ah w' D n0 m (s.put p) { V with vo:=vo }/\ap w w' D V { V with vo:=vo }:=by
 obtain⟨vo,hvo⟩:∃x,x=V.vo:=⟨_,rfl⟩;have H:=lH h;have HL:=lH hl;have HV:=lH hvo;have hD:=h.k.lt;clear h hl hvo;obtain⟨pk,pn,pt⟩:=p;go_enter Tryz.func80,Tryz.ntmps80
 go_wp2_with fail
 refine br (S:=fun W=>ac W w.heap.size #[.int .i64 pk,.int .i64 pn,.string pt] 80) (by kernel_rfl) ?_;intro V0 hV0
 have h0:ac V0 w.heap.size #[.int .i64 pk,.int .i64 pn,.string pt] 80:=by
  subst hV0;exact(ac.new _ _ _).drew
 have HA:=lH (show ah V0 D n0 m s V by subst hV0;exact(H.out.alloc _).drew);have HB0:=lH (show Below w.heap.size w V0 by subst hV0;exact((tU _ _).alloc (nR _) _).drew);clear hV0;refine tV (i:=0) (v:=.pointer (some ⟨D,0,none⟩)) rfl (by kernel_rfl) (by kernel_rfl) (by kernel_rfl) (fun _ _ _ h=>h) (Or.inl ⟨by kernel_rfl,?hy0⟩) h0 ?rest0
 case hy0=>
  intro v hv;clear hv;go_simp
 (try simp only[Act.put,lS,lZ,lC])
 refine tV (i:=1) (v:=.pointer (some ⟨D,0,none⟩)) rfl (by kernel_rfl) (by kernel_rfl) (by kernel_rfl) (fun _ _ _ h=>h) (Or.inl ⟨by kernel_rfl,?hy1⟩) h0 ?rest1
 case hy1=>
  intro v hv;clear hv;go_simp
 (try simp only[Act.put,lS,lZ,lC])
 refine tV (i:=2) (v:=.pointer (some ⟨D,0,none⟩)) rfl (by kernel_rfl) (by kernel_rfl) (by kernel_rfl) (fun _ _ _ h=>h) (Or.inl ⟨by kernel_rfl,?hy2⟩) h0 ?rest2
 case hy2=>
  intro v hv;clear hv;go_simp
 (try simp only[Act.put,lS,lZ,lC])
 refine tV (i:=3) (v:=.pointer (some ⟨D,6,none⟩)) rfl (by kernel_rfl) (by kernel_rfl) (by kernel_rfl) (fun _ _ _ h=>h) (Or.inl ⟨by kernel_rfl,?hy3⟩) h0 ?rest3
 case hy3=>
  intro v hv;clear hv;go_simp
 (try simp only[Act.put,lS,lZ,lC])
 refine tV (i:=5) (v:=.agg #[.int .i64 pk,.int .i64 pn,.string pt]) rfl (by kernel_rfl) (by kernel_rfl) (by kernel_rfl) (fun _ _ _ h=>h) (Or.inl ⟨by kernel_rfl,?hy5⟩) h0 ?rest5
 case hy5=>
  intro v hv;have q0:v.cell? ⟨w.heap.size,0,none⟩=some (.int .i64 pk):=hv.cell 0;have q1:v.cell? ⟨w.heap.size,1,none⟩=some (.int .i64 pn):=hv.cell 1;have q2:v.cell? ⟨w.heap.size,2,none⟩=some (.string pt):=hv.cell 2;clear hv;go_simp
 (try simp only[Act.put,lS,lZ,lC])
 refine uq (rs:=[4,6]) (by kernel_rfl) (by simp) ?_;refine uf rfl (fun K hK=>?_) (uf rfl (fun K hK=>?_) um)
 ·have q:V0.cell? ⟨D,6,none⟩=some vo:=by rw[HV.out];exact HA.out.k.cell 6
  go_simp;clear q;refine hK _ _ h0 (fun _=>?_);clear hK K;(try simp only[Act.put,lS,lZ,lC])
  refine uq (rs:=[6]) (by kernel_rfl) (by simp) ?_;refine uf rfl (fun K hK=>?_) um;go_simp;have h1:ac (V0.alloc (.cells #[.int .i64 pk,.int .i64 pn,.string pt] 80)) w.heap.size #[.int .i64 pk,.int .i64 pn,.string pt] 80:=h0.alloc _;have HN:=lH (ac.new V0 #[.int .i64 pk,.int .i64 pn,.string pt] 80);have HB1:=lH (HB0.out.alloc HB0.out.size (.cells #[.int .i64 pk,.int .i64 pn,.string pt] 80));have HA1:=lH (HA.out.alloc (.cells #[.int .i64 pk,.int .i64 pn,.string pt] 80));refine hK _ _ h1 (fun _=>?_);clear hK K h0;(try simp only[Act.put,lS,lZ,lC])
  generalize hb:V0.heap.size=b1 at HN ⊢;generalize V0.alloc (.cells #[.int .i64 pk,.int .i64 pn,.string pt] 80)=V1 at HN HB1 HA1 h1 ⊢;clear hb HB0 HA;refine uq (rs:=[7]) (by kernel_rfl) (by simp) ?_;refine uf rfl (fun K hK=>?_) um;refine fG rfl _ _ rfl rfl (show aU V1 n0 vo s.out by rw[HV.out];exact HA1.out.o) ⟨pk,pn,pt⟩ b1 HN.out rfl HL.out HA1.out.size ?_;intro g1 c1 V2 ho2 ht2 hg2
  have hty:bZ V1 (fun j=>vo.ownBlock=some j) [117,80]:=fun j hj=>by
   obtain⟨_,cs,hb⟩:=aN (show aU V1 n0 vo s.out by rw[HV.out];exact HA1.out.o) j hj;exact⟨cs,_,List.mem_cons_of_mem _ vj,hb⟩
  have hlo:∀j,vo.ownBlock=some j->n0<=j/\j<w.heap.size:=fun j hj=>by
   obtain⟨h1,cs,hb⟩:=aN (show aU w n0 vo s.out by rw[HV.out];exact H.out.o) j hj;exact⟨h1,hb.lt⟩
  have hnD:vo.ownBlock≠some D:=fun e=>by
   obtain⟨_,cs,hb⟩:=aN (show aU V1 n0 vo s.out by rw[HV.out];exact HA1.out.o) D e;exact HA1.out.k.ne hb (by decide) rfl
  have hgD:g1≠D:=fun e=>by
   rcases hg2 with h|h
   ·exact hnD (e▸h)
   ·have:=HA1.out.k.lt;omega
  have k2:ac V2 D (cy m s V) 117:=HA1.out.k.touch ht2 hnD;have h2:ac V2 w.heap.size #[.int .i64 pk,.int .i64 pn,.string pt] 80:=h1.touch ht2 (fun e=>by have:=(hlo _ e).2;omega);have K2:=lH k2;have R2:=lH (HA1.out.r.touch ht2 hty);have HO2:=lH ho2;have HB2:=lH (show aa (fS D V) w V2 from aA (aa.of_below HB1.out) (ht2.mono (Q:=fS D V) (fun k _ hk=>Or.inr (Or.inl (by rw[<-HV.out];exact hk)))) (fun _ _ h=>h))
  have HQ2:=lH (show ∀j,j<w.heap.size->j=g1->fS D V j from fun j hj e=>by
   rcases hg2 with h|h
   ·exact Or.inr (Or.inl (by rw[<-HV.out,e];exact h))
   ·have:=HB1.out.size;omega)
  have HG2:=lH hgD;clear ho2 ht2 hg2 hty hlo hnD hgD k2 h1 HN HB1 HA1;refine hK _ _ h2 (fun _=>?_);clear hK K;(try simp only[Act.put,lS,lZ,lC])
  refine tV (i:=8) (v:=.pointer (some ⟨D,0,none⟩)) rfl (by kernel_rfl) (by kernel_rfl) (by kernel_rfl) (fun _ _ _ h=>h) (Or.inl ⟨by kernel_rfl,?hy8⟩) h2 ?rest8
  case hy8=>
   intro v hv;clear hv;go_simp
  (try simp only[Act.put,lS,lZ,lC])
  refine tV (i:=9) (v:=.pointer (some ⟨D,6,none⟩)) rfl (by kernel_rfl) (by kernel_rfl) (by kernel_rfl) (fun _ _ _ h=>h) (Or.inl ⟨by kernel_rfl,?hy9⟩) h2 ?rest9
  case hy9=>
   intro v hv;clear hv;go_simp
  (try simp only[Act.put,lS,lZ,lC])
  refine uq (rs:=[10]) (by kernel_rfl) (by simp) ?_;refine uf rfl (fun K hK=>?_) um;have z:V2.frozen? ⟨D,6,none⟩=false:=K2.out.froz 6;have y:V2.cell? ⟨D,6,none⟩=some vo:=by rw[HV.out];exact K2.out.cell 6
  go_simp;clear y z;have h3:ac (V2.setCell ⟨D,6,none⟩ (.slice (some ⟨g1,0,none⟩) (s.out.length+1) c1)) w.heap.size #[.int .i64 pk,.int .i64 pn,.string pt] 80:=h2.far (by show w.heap.size≠D;omega) _;refine hK _ _ h3 (fun _=>?_);clear hK K h2 h3;(try simp only[Act.put,lS,lZ,lC])
  refine wpAnyH_done (by kernel_rfl) ?_ _;go_end0
  have T3:aa (fun j=>j=D) V2 (V2.setCell ⟨D,6,none⟩ (.slice (some ⟨g1,0,none⟩) (s.out.length+1) c1)):=(aa.refl (fun j=>j=D) V2).setCell (p:=⟨D,6,none⟩) rfl _;have hk3:ac (V2.setCell ⟨D,6,none⟩ (.slice (some ⟨g1,0,none⟩) (s.out.length+1) c1)) D (cy m (s.put ⟨pk,pn,pt⟩) { V with vo:=.slice (some ⟨g1,0,none⟩) (s.out.length+1) c1 }) 117:=K2.out.set 6 _;refine⟨rfl,_,R2.out.put H.out.d hk3 ?_ T3 (fun j e=>⟨_,_,vj,e▸K2.out⟩),⟨aA HB2.out (T3.mono (Q:=fS D V) (fun k _ hk=>Or.inl hk)) (fun _ _ h=>h),fun j hj e=>?_⟩⟩
  ·exact ab HO2.out T3 (fun k hk e=>HG2.out (by cases hk;exact e))
  ·rcases e with e|e|e|e|e
   ·exact Or.inl e
   ·exact HQ2.out j hj (by cases e;rfl)
   ·exact Or.inr (Or.inr (Or.inl e))
   ·exact Or.inr (Or.inr (Or.inr (Or.inl e)))
   ·exact Or.inr (Or.inr (Or.inr (Or.inr e)))
 ·go_simp
  have h1:ac (V0.alloc (.cells #[.int .i64 pk,.int .i64 pn,.string pt] 80)) w.heap.size #[.int .i64 pk,.int .i64 pn,.string pt] 80:=h0.alloc _;have HN:=lH (ac.new V0 #[.int .i64 pk,.int .i64 pn,.string pt] 80);have HB1:=lH (HB0.out.alloc HB0.out.size (.cells #[.int .i64 pk,.int .i64 pn,.string pt] 80));have HA1:=lH (HA.out.alloc (.cells #[.int .i64 pk,.int .i64 pn,.string pt] 80));refine hK _ _ h1 (fun _=>?_);clear hK K h0;(try simp only[Act.put,lS,lZ,lC])
  refine uq (rs:=[4]) (by kernel_rfl) (by simp) ?_;refine uf rfl (fun K hK=>?_) um;have q:(V0.alloc (.cells #[.int .i64 pk,.int .i64 pn,.string pt] 80)).cell? ⟨D,6,none⟩=some vo:=by rw[HV.out];exact HA1.out.k.cell 6
  go_simp;clear q;refine hK _ _ h1 (fun _=>?_);clear hK K;(try simp only[Act.put,lS,lZ,lC])
  generalize hb:V0.heap.size=b1 at HN ⊢;generalize V0.alloc (.cells #[.int .i64 pk,.int .i64 pn,.string pt] 80)=V1 at HN HB1 HA1 h1 ⊢;clear hb HB0 HA;refine uq (rs:=[7]) (by kernel_rfl) (by simp) ?_;refine uf rfl (fun K hK=>?_) um;refine fG rfl _ _ rfl rfl (show aU V1 n0 vo s.out by rw[HV.out];exact HA1.out.o) ⟨pk,pn,pt⟩ b1 HN.out rfl HL.out HA1.out.size ?_;intro g1 c1 V2 ho2 ht2 hg2
  have hty:bZ V1 (fun j=>vo.ownBlock=some j) [117,80]:=fun j hj=>by
   obtain⟨_,cs,hb⟩:=aN (show aU V1 n0 vo s.out by rw[HV.out];exact HA1.out.o) j hj;exact⟨cs,_,List.mem_cons_of_mem _ vj,hb⟩
  have hlo:∀j,vo.ownBlock=some j->n0<=j/\j<w.heap.size:=fun j hj=>by
   obtain⟨h1,cs,hb⟩:=aN (show aU w n0 vo s.out by rw[HV.out];exact H.out.o) j hj;exact⟨h1,hb.lt⟩
  have hnD:vo.ownBlock≠some D:=fun e=>by
   obtain⟨_,cs,hb⟩:=aN (show aU V1 n0 vo s.out by rw[HV.out];exact HA1.out.o) D e;exact HA1.out.k.ne hb (by decide) rfl
  have hgD:g1≠D:=fun e=>by
   rcases hg2 with h|h
   ·exact hnD (e▸h)
   ·have:=HA1.out.k.lt;omega
  have k2:ac V2 D (cy m s V) 117:=HA1.out.k.touch ht2 hnD;have h2:ac V2 w.heap.size #[.int .i64 pk,.int .i64 pn,.string pt] 80:=h1.touch ht2 (fun e=>by have:=(hlo _ e).2;omega);have K2:=lH k2;have R2:=lH (HA1.out.r.touch ht2 hty);have HO2:=lH ho2;have HB2:=lH (show aa (fS D V) w V2 from aA (aa.of_below HB1.out) (ht2.mono (Q:=fS D V) (fun k _ hk=>Or.inr (Or.inl (by rw[<-HV.out];exact hk)))) (fun _ _ h=>h))
  have HQ2:=lH (show ∀j,j<w.heap.size->j=g1->fS D V j from fun j hj e=>by
   rcases hg2 with h|h
   ·exact Or.inr (Or.inl (by rw[<-HV.out,e];exact h))
   ·have:=HB1.out.size;omega)
  have HG2:=lH hgD;clear ho2 ht2 hg2 hty hlo hnD hgD k2 h1 HN HB1 HA1;refine hK _ _ h2 (fun _=>?_);clear hK K;(try simp only[Act.put,lS,lZ,lC])
  refine tV (i:=8) (v:=.pointer (some ⟨D,0,none⟩)) rfl (by kernel_rfl) (by kernel_rfl) (by kernel_rfl) (fun _ _ _ h=>h) (Or.inl ⟨by kernel_rfl,?hy8b⟩) h2 ?rest8b
  case hy8b=>
   intro v hv;clear hv;go_simp
  (try simp only[Act.put,lS,lZ,lC])
  refine tV (i:=9) (v:=.pointer (some ⟨D,6,none⟩)) rfl (by kernel_rfl) (by kernel_rfl) (by kernel_rfl) (fun _ _ _ h=>h) (Or.inl ⟨by kernel_rfl,?hy9b⟩) h2 ?rest9b
  case hy9b=>
   intro v hv;clear hv;go_simp
  (try simp only[Act.put,lS,lZ,lC])
  refine uq (rs:=[10]) (by kernel_rfl) (by simp) ?_;refine uf rfl (fun K hK=>?_) um;have z:V2.frozen? ⟨D,6,none⟩=false:=K2.out.froz 6;have y:V2.cell? ⟨D,6,none⟩=some vo:=by rw[HV.out];exact K2.out.cell 6
  go_simp;clear y z;have h3:ac (V2.setCell ⟨D,6,none⟩ (.slice (some ⟨g1,0,none⟩) (s.out.length+1) c1)) w.heap.size #[.int .i64 pk,.int .i64 pn,.string pt] 80:=h2.far (by show w.heap.size≠D;omega) _;refine hK _ _ h3 (fun _=>?_);clear hK K h2 h3;(try simp only[Act.put,lS,lZ,lC])
  refine wpAnyH_done (by kernel_rfl) ?_ _;go_end0
  have T3:aa (fun j=>j=D) V2 (V2.setCell ⟨D,6,none⟩ (.slice (some ⟨g1,0,none⟩) (s.out.length+1) c1)):=(aa.refl (fun j=>j=D) V2).setCell (p:=⟨D,6,none⟩) rfl _;have hk3:ac (V2.setCell ⟨D,6,none⟩ (.slice (some ⟨g1,0,none⟩) (s.out.length+1) c1)) D (cy m (s.put ⟨pk,pn,pt⟩) { V with vo:=.slice (some ⟨g1,0,none⟩) (s.out.length+1) c1 }) 117:=K2.out.set 6 _;refine⟨rfl,_,R2.out.put H.out.d hk3 ?_ T3 (fun j e=>⟨_,_,vj,e▸K2.out⟩),⟨aA HB2.out (T3.mono (Q:=fS D V) (fun k _ hk=>Or.inl hk)) (fun _ _ h=>h),fun j hj e=>?_⟩⟩
  ·exact ab HO2.out T3 (fun k hk e=>HG2.out (by cases hk;exact e))
  ·rcases e with e|e|e|e|e
   ·exact Or.inl e
   ·exact HQ2.out j hj (by cases e;rfl)
   ·exact Or.inr (Or.inr (Or.inl e))
   ·exact Or.inr (Or.inr (Or.inr (Or.inl e)))
   ·exact Or.inr (Or.inr (Or.inr (Or.inr e)))
end Go.Proofs.YthjbodpeckebiaaGreatDoor
-- BdC
namespace Go.Proofs.YthjbodpeckebiaaGreatDoor
open Go.RowKit
theorem ah.shut {w:World} {D n0:Nat} {m:Lm} {s:am} {V:bh} (h:ah w D n0 m s V) (i:Nat) (u:Value) {s':am} (hr:cy m s' (V.shut D)=(cy m s V).setIfInBounds i u) (ho:s'.out=s.out) (ha:s'.all=s.all) (ht:s'.tr=s.tr) (hs:s'.opens=false):ah (w.setCell ⟨D,i,none⟩ u) D n0 m s' (V.shut D):=
 h.set i u hr ho rfl ha rfl ht rfl (fun e=>by rw[hs] at e;cases e) (fun e=>by unfold am.lined at e;rw[hs] at e;cases e) (fun _=>⟨rfl,rfl⟩) h.r.f
theorem ap.shut (w:World) (D i:Nat) (u:Value) (V:bh):ap w (w.setCell ⟨D,i,none⟩ u) D V (V.shut D):=⟨(aO w D i u).mono (fun _ _ e=>Or.inl e),fun _ _ e=>e.shut⟩
theorem ap.shut2 (w:World) (D i:Nat) (u:Value) (V:bh):ap w (w.setCell ⟨D,i,none⟩ u) D (V.shut D) (V.shut D):=⟨(aO w D i u).mono (fun _ _ e=>Or.inl e),fun _ _ e=>e⟩
theorem ap.unshut {w w1:World} {D:Nat} {V V1:bh} (h:ap w w1 D (V.shut D) V1):ap w w1 D V V1:=⟨h.t.mono (fun _ _ e=>e.shut),fun j hj e=>(h.s j hj e).shut⟩
theorem gn {w:World} {D n0:Nat} {m:Lm} {s:am} {V:bh} (h:ah w D n0 m s V) (hl:s.out.length<=1000000) (e:Int) (he:e≠0):
 Calls Tryz.prog 67 #[.pointer (some ⟨D,0,none⟩),.int .i64 e] w fun x w'=>x=.returned (.tuple #[])/\∃vo,ah w' D n0 m (s.wrong e) { V.shut D with vo:=vo }/\ap w w' D (V.shut D) { V.shut D with vo:=vo }:=by
 have z:w.frozen? ⟨D,13,none⟩=false:=h.k.froz 13;have y:w.cell? ⟨D,13,none⟩=some (.int .i64 s.e):=h.k.cell 13;have h1:ah (w.setCell ⟨D,13,none⟩ (.int .i64 e)) D n0 m { s with e:=e } (V.shut D):=h.shut 13 _ rfl rfl rfl rfl (by unfold am.opens;simp[he]);have HC:=lH (bk h1 hl ⟨5,e,⟨#[]⟩⟩);have HG:=lH (ap.shut2 w D 13 (.int .i64 e) V);clear h h1 hl;go_enter Tryz.func67,Tryz.ntmps67
 go_wp2_with (go_at_call 80;refine HC.out.mono ?_;rintro e1 w1 ⟨rfl,vo,h1,g1⟩;have H1:=lH h1;have G1:=lH g1;clear h1 g1)
 go_end0
 exact⟨rfl,vo,H1.out,HG.out.trans G1.out⟩
theorem cJ {w:World} {D n0:Nat} {m:Lm} {s:am} {V:bh} (h:ah w D n0 m s V) (hl:s.out.length<=1000000) (e:Int) (he:e≠0):
 Calls Tryz.prog 67 #[.pointer (some ⟨D,0,none⟩),.int .i64 e] w fun x w'=>x=.returned (.tuple #[])/\∃vo,ah w' D n0 m (s.wrong e) { V.shut D with vo:=vo }/\ap w w' D V { V.shut D with vo:=vo }:=
 (gn h hl e he).mono fun _ _ ⟨h1,vo,h2,h3⟩=>⟨h1,vo,h2,h3.unshut⟩
theorem jp {w:World} {D n0:Nat} {m:Lm} {s:am} {V:bh} (h:ah w D n0 m s V) (hl:s.out.length<=1000000):
 Calls Tryz.prog 66 #[.pointer (some ⟨D,0,none⟩)] w fun x w'=>x=.returned (.tuple #[])/\∃vo,ah w' D n0 m s.ends { V.shut D with vo:=vo }/\ap w w' D V { V.shut D with vo:=vo }:=by
 have z:w.frozen? ⟨D,12,none⟩=false:=h.k.froz 12;have y:w.cell? ⟨D,12,none⟩=some (.bool s.over):=h.k.cell 12;have h1:ah (w.setCell ⟨D,12,none⟩ (.bool true)) D n0 m { s with over:=true } (V.shut D):=h.shut 12 _ rfl rfl rfl rfl rfl;have HC:=lH (bk h1 hl ⟨4,0,⟨#[]⟩⟩);have HG:=lH (ap.shut w D 12 (.bool true) V);clear h h1 hl;go_enter Tryz.func66,Tryz.ntmps66
 go_wp2_with (go_at_call 80;refine HC.out.mono ?_;rintro e1 w1 ⟨rfl,vo,h1,g1⟩;have H1:=lH h1;have G1:=lH g1;clear h1 g1)
 go_end0
 exact⟨rfl,vo,H1.out,HG.out.trans G1.out⟩
theorem jo {w:World} {D:Nat} {m:Lm} {s:am} {V:bh} (h:ac w D (cy m s V) 117):Calls Tryz.prog 54 #[.pointer (some ⟨D,0,none⟩)] w fun x w'=>x=.returned (.bool s.over)/\w=w':=by
 have y:w.cell? ⟨D,12,none⟩=some (.bool s.over):=h.cell 12;clear h;go_enter Tryz.func54,Tryz.ntmps54
 go_wp2_with fail
 go_ret;exact⟨rfl,rfl⟩
theorem qA {w:World} {D:Nat} {m:Lm} {s:am} {V:bh} (h:ac w D (cy m s V) 117):Calls Tryz.prog 53 #[.pointer (some ⟨D,0,none⟩)] w fun x w'=>x=.returned (.int .i64 s.e)/\w=w':=by
 have y:w.cell? ⟨D,13,none⟩=some (.int .i64 s.e):=h.cell 13;clear h;go_enter Tryz.func53,Tryz.ntmps53
 go_wp2_with fail
 go_ret;exact⟨rfl,rfl⟩
theorem ju {w:World} {D n0:Nat} {m:Lm} {s:am} {V:bh} (h:ah w D n0 m s V):
 Calls Tryz.prog 65 #[.pointer (some ⟨D,0,none⟩)] w fun x w'=>x=.returned V.vo/\ah w' D n0 m (jn s) { V with vo:=.slice none 0 0 }/\aU w' n0 V.vo s.out/\ap w w' D V { V with vo:=.slice none 0 0 }:=by
 obtain⟨vo,hvo⟩:∃x,x=V.vo:=⟨_,rfl⟩;rw[<-hvo];have z:w.frozen? ⟨D,6,none⟩=false:=h.k.froz 6;have y:w.cell? ⟨D,6,none⟩=some vo:=by rw[hvo];exact h.k.cell 6
 have H:=lH h;have HV:=lH hvo;clear h hvo;go_enter Tryz.func65,Tryz.ntmps65
 go_wp2_with fail
 go_ret;have T:=aO w D 6 (.slice none 0 0);refine⟨rfl,⟨H.out.k.set 6 _,H.out.d,aU.start _ _,?_⟩,?_,⟨T.mono (fun _ _ e=>Or.inl e),fun j _ e=>?_⟩⟩
 ·have r:=H.out.r.touch T H.out.ofD
  exact⟨r.a,r.t,r.n,fun e=>⟨(r.l e).p,(r.l e).n,(r.l e).l⟩,r.u,r.f⟩
 ·rw[HV.out]
  exact ab H.out.o T (fun k hk e=>by obtain⟨_,cs,hb⟩:=aN H.out.o k hk;exact H.out.k.ne hb (by decide) e.symm)
 ·rcases e with e|e|e|e|e
  ·exact Or.inl e
  ·cases e
  ·exact Or.inr (Or.inr (Or.inl e))
  ·exact Or.inr (Or.inr (Or.inr (Or.inl e)))
  ·exact Or.inr (Or.inr (Or.inr (Or.inr e)))
end Go.Proofs.YthjbodpeckebiaaGreatDoor
-- BdD
namespace Go.Proofs.YthjbodpeckebiaaGreatDoor
open Go.RowKit
theorem jr {w:World} {D n0:Nat} {m:Lm} {s:am} {V:bh} (h:ah w D n0 m s V):Calls Tryz.prog 64 #[.pointer (some ⟨D,0,none⟩)] w fun x w'=>x=.returned (.bool s.opens)/\w=w':=by
 obtain⟨f,a,c,hf⟩:=h.r.f;have y5:w.cell? ⟨D,5,none⟩=some (.func f a c):=by rw[<-hf];exact h.k.cell 5
 have y12:w.cell? ⟨D,12,none⟩=some (.bool s.over):=h.k.cell 12;have y13:w.cell? ⟨D,13,none⟩=some (.int .i64 s.e):=h.k.cell 13;have hbn:∀W:World,(binOp .neq 115 (.func f a c) .nilFunc).run Tryz.prog W=.ok (.bool true) W:=fun _=>rfl;unfold am.opens;clear h hf;cases ho:s.over with
 | true=>
   rw[ho] at y12;go_enter Tryz.func64,Tryz.ntmps64
   go_wp2_with fail
   go_ret;exact⟨rfl,rfl⟩
 | false=>
   rw[ho] at y12;cases he:(s.e==0) with
   | true=>
     go_enter Tryz.func64,Tryz.ntmps64
     go_wp2_with fail
     go_ret;exact⟨rfl,rfl⟩
   | false=>
     go_enter Tryz.func64,Tryz.ntmps64
     go_wp2_with fail
     go_ret;exact⟨rfl,rfl⟩
theorem js {w:World} {D n0:Nat} {m:Lm} {s:am} {V:bh} (h:ah w D n0 m s V) (hl:s.out.length<=1000000) (x:ByteArray) (hx:x.size<=1000000):
 Calls Tryz.prog 79 #[.pointer (some ⟨D,0,none⟩),.string x] w fun e w'=>e=.returned (.int .i64 x.size)/\∃vo,ah w' D n0 m (s.rest x.data.toList) { V with vo:=vo }/\ap w w' D V { V with vo:=vo }:=by
 have HC:=lH (bk h hl ⟨3,0,x⟩);clear h hl;go_enter Tryz.func79,Tryz.ntmps79
 go_wp2_with (go_at_call 80;refine HC.out.mono ?_;rintro e1 w1 ⟨rfl,vo,h1,g1⟩;have H1:=lH h1;have G1:=lH g1;clear h1 g1)
 go_ret;exact⟨rfl,vo,H1.out,G1.out⟩
theorem jt {w:World} {D n0:Nat} {m:Lm} {s:am} {V:bh} (h:ah w D n0 m s V) (hl:s.out.length<=1000000) (x:ByteArray) (hx:x.size<=1000000) (h0:0<=s.left) (h1:s.left<=9223372036854775807):
 Calls Tryz.prog 93 #[.pointer (some ⟨D,0,none⟩),.string x] w fun e w'=>e=.returned (.int .i64 (s.some x.data.toList).2)/\∃vo,ah w' D n0 m (s.some x.data.toList).1 { V with vo:=vo }/\ap w w' D V { V with vo:=vo }:=by
 obtain⟨n,hn⟩:∃n:Nat,(n:Int)=min (x.size:Int) s.left:=⟨(min (x.size:Int) s.left).toNat,by omega⟩;have hnx:n<=x.size:=by omega
 have z:w.frozen? ⟨D,7,none⟩=false:=h.k.froz 7;have y:w.cell? ⟨D,7,none⟩=some (.int .i64 s.left):=h.k.cell 7
 have k1:ah (w.setCell ⟨D,7,none⟩ (.int .i64 (s.left - n))) D n0 m { s with left:=s.left - n } V:=
  h.set 7 _ rfl rfl rfl rfl rfl rfl rfl (fun e=>(h.r.n e).touch (aO _ _ _ _) h.ofD (by decide) (by decide) (by decide)) (fun e=>⟨(h.r.l e).p,(h.r.l e).n,((h.r.l e).touch (aO _ _ _ _) h.ofD (by decide) (by decide)).l⟩) h.r.u h.r.f
 have HC:=lH (js k1 hl (x.extract 0 n) (by rw[uZ];omega))
 have hl2:s.some x.data.toList=(({ s with left:=s.left - n }).rest (x.extract 0 n).data.toList,n):=by
  unfold am.some;rw[<-Lib.size_eq,<-hn];simp
 have hsz:(x.extract 0 n).size=n:=by rw[uZ];omega
 rw[hl2];have HL:=lH hl2;have hleft:s.left - (n:Int)<=9223372036854775807:=by omega
 have hleft0:0<=s.left - (n:Int):=by omega
 have hmin:min (x.size:Int) s.left=(n:Int):=hn.symm
 have hsl:∀W:World,(Instr.slice 9 (.string x) none (some (.int .i64 (n:Int))) none).run Tryz.prog W=.ok (.string (x.extract 0 n)) W:=fun W=>by
  rw[run_slice_string_h W 9 x Tryz.underlying9 .i64 (n:Int) (by omega) (by omega),uc]
 have HG:=lH (show ap w (w.setCell ⟨D,7,none⟩ (.int .i64 (s.left - n))) D V V from ⟨(aO w D 7 _).mono (fun _ _ e=>Or.inl e),fun _ _ e=>e⟩);clear h hl k1 hl2 hn;go_enter Tryz.func93,Tryz.ntmps93
 go_wp2_with (go_at_call 79;refine HC.out.mono ?_;rintro e1 w1 ⟨rfl,vo,h1,g1⟩;have H1:=lH h1;have G1:=lH g1;clear h1 g1)
 go_ret;exact⟨rfl,vo,H1.out,HG.out.trans G1.out⟩
theorem jZ {s:am} (h0:0<=s.left) (x:List UInt8):0<=(s.some x).1.left/\(s.some x).1.left<=s.left:=by
 unfold am.some am.rest am.put;simp only;omega
theorem iQ (s:am) (x:List UInt8):(s.some x).1.out.length=s.out.length+1:=by
 unfold am.some am.rest am.put;simp
theorem mm {w:World} {D n0:Nat} {m:Lm} {s:am} {V:bh} (h:ah w D n0 m s V) (hl:s.out.length<=999999) (hm:s.md=.sized) (x:ByteArray) (hx:x.size<=1000000) (h0:0<=s.left) (h1:s.left<=9223372036854775807):
 Calls Tryz.prog 77 #[.pointer (some ⟨D,0,none⟩),.string x] w fun e w'=>e=.returned (.int .i64 (an m s x.data.toList).2)/\∃V',ah w' D n0 m (an m s x.data.toList).1 V'/\ap w w' D V V':=by
 obtain⟨R,hR⟩:∃R,R=s.some x.data.toList:=⟨_,rfl⟩
 have hb:an m s x.data.toList=(if R.1.left=0 then R.1.ends else R.1,R.2):=by
  rw[hR];unfold an;rw[hm]
 have HC:=lH (jt h (by omega) x hx h0 h1);have hlo:R.1.out.length<=1000000:=by rw[hR,iQ];omega
 rw[<-hR] at HC;rw[hb];clear h hl hm hb hR;by_cases hz:R.1.left=0
 ·rw[if_pos hz]
  go_enter Tryz.func77,Tryz.ntmps77
  go_wp2_with (first|(go_at_call 93;refine HC.out.mono ?_;rintro e1 w1 ⟨rfl,vo,h1,g1⟩;have y7:w1.cell? ⟨D,7,none⟩=some (.int .i64 R.1.left):=h1.k.cell 7;rw[hz] at y7;have H1:=lH h1;have G1:=lH g1;clear h1 g1)|(go_at_call 66;refine(jp H1.out hlo).mono ?_;rintro e2 w2 ⟨rfl,vo2,h2,g2⟩;have H2:=lH h2;have G2:=lH g2;clear h2 g2))
  go_ret;exact⟨rfl,_,H2.out,G1.out.trans G2.out⟩
 ·rw[if_neg hz]
  have hz2:(R.1.left==0)=false:=by rw[tT];exact hz
  clear hz;go_enter Tryz.func77,Tryz.ntmps77
  go_wp2_with (go_at_call 93;refine HC.out.mono ?_;rintro e1 w1 ⟨rfl,vo,h1,g1⟩;have y7:w1.cell? ⟨D,7,none⟩=some (.int .i64 R.1.left):=h1.k.cell 7;have H1:=lH h1;have G1:=lH g1;clear h1 g1)
  go_ret;exact⟨rfl,_,H1.out,G1.out⟩
end Go.Proofs.YthjbodpeckebiaaGreatDoor
-- PLine
namespace Go.Proofs.YthjbodpeckebiaaGreatDoor
open Go.RowKit
structure PlS (b:Nat) (va:Value) (kind a fields c d fold:Int) (w:World):Prop where
 c1:w.cell? ⟨b,1,none⟩=some (.int .i64 kind)
 c2:w.cell? ⟨b,2,none⟩=some (.int .i64 a)
 c3:w.cell? ⟨b,3,none⟩=some (.int .i64 fields)
 c4:w.cell? ⟨b,4,none⟩=some (.int .i64 c)
 c5:w.cell? ⟨b,5,none⟩=some (.int .i64 d)
 c6:w.cell? ⟨b,6,none⟩=some (.int .i64 fold)
 c7:w.cell? ⟨b,7,none⟩=some va
theorem aI.pls {w:World} {b g B:Nat} {vl va vf:Value} {kind a fields c d fold:Int} {p:cY} (h:ac w b (dP g va vf kind a fields c d fold p) 114):PlS b va kind a fields c d fold w:=
 ⟨h.cell 1,h.cell 2,h.cell 3,h.cell 4,h.cell 5,h.cell 6,h.cell 7⟩
def sH (w:World) (b:Nat) (h:Hd) (f:Value):World:=(((((w.setCell ⟨b,9,none⟩ (.string h.m)).setCell ⟨b,10,none⟩ (.string h.t)).setCell ⟨b,11,none⟩ (.int .i64 h.k)).setCell ⟨b,12,none⟩ (.int .i64 h.n)).setCell ⟨b,13,none⟩ (.string h.r)).setCell ⟨b,14,none⟩ f
theorem kP {w:World} {b g:Nat} {va vf:Value} {kind a fields c d fold:Int} {p:cY} (h:ac w b (dP g va vf kind a fields c d fold p) 114) (q:Hd) (f:Value):ac (sH w b q f) b (dP g va f kind a fields c d fold { p with hd:=q }) 114:=
 (((((h.set 9 (.string q.m)).set 10 (.string q.t)).set 11 (.int .i64 q.k)).set 12 (.int .i64 q.n)).set 13 (.string q.r)).set 14 f
theorem iT (w:World) (b:Nat) (q:Hd) (f:Value):aa (fun j=>j=b) w (sH w b q f):=
 ((((((aa.refl (fun j=>j=b) w).setCell (p:=⟨b,9,none⟩) rfl _).setCell (p:=⟨b,10,none⟩) rfl _).setCell (p:=⟨b,11,none⟩) rfl _).setCell (p:=⟨b,12,none⟩) rfl _).setCell (p:=⟨b,13,none⟩) rfl _).setCell (p:=⟨b,14,none⟩) rfl _
theorem pB {w:World} {b g B:Nat} {vl va vf:Value} {kind a fields c d fold:Int} {p:cY} (h:aI w b g B vl va vf kind a fields c d fold p) (hf:p.fin=false) (hfi:-9223372036854775808<=fields/\fields<=9223372036854775807) {mx:Int} (hm:w.cell? ⟨0,0,none⟩=some (.int .i64 mx)) (hl:p.all.length<=100000) (ht:du p.all<=100000) (hk:p.all≠[]\/kind=2):
 Calls Tryz.prog 71 #[.pointer (some ⟨b,0,none⟩),.string ⟨#[]⟩] w fun e w'=>e=.returned (.tuple #[])/\∃vf',aI w' b g B vl va vf' kind a fields c d fold { p with fin:=true,hd:=(bs kind fields fold p.all).1,e:=(bs kind fields fold p.all).2 }/\aa (fun j=>j=b) w w':=by
 have a7:w.cell? ⟨b,7,none⟩=some va:=h.k.cell 7;have a1:w.cell? ⟨b,1,none⟩=some (.int .i64 kind):=h.k.cell 1;have f8:w.frozen? ⟨b,8,none⟩=false:=h.k.froz 8;obtain⟨pp,cc,hsh⟩:=h.o.shape;have he:(⟨#[]⟩:ByteArray).toList.isEmpty=true:=by rw[af];rfl
 obtain⟨w8,hw8⟩:∃w8,w8=w.setCell ⟨b,8,none⟩ (.bool true):=⟨_,rfl⟩;have T8:aa (fun j=>j=b) w w8:=by rw[hw8];exact(aa.refl (fun j=>j=b) w).setCell (p:=⟨b,8,none⟩) rfl _
 have K8:ac w8 b (dP g va vf kind a fields c d fold { p with fin:=true }) 114:=by rw[hw8];exact h.k.set 8 (.bool true)
 have hB:∀k,B<=k->¬k=b:=fun k hk e=>by have:=h.lt;omega
 have O8:ao w8 B va p.all:=ab h.o T8 (fun k hk=>hB k (h.o.lt k hk).1);have L8:bm w8 g B vl p.ln:=h.l.touch T8 (fun e=>h.ne e.symm) (fun k hk=>hB k (h.l.o.lt k hk).1)
 have M8:w8.cell? ⟨0,0,none⟩=some (.int .i64 mx):=by
  exact eW T8 (fun e=>by have:=h.b0;simp at e;omega) hm
 have HP8:=lH (fun(V:World) (hV:Below w8.heap.size w8 V)=>mD kind a fields c d fold hfi va O8.capok p.all V (bP M8 hV) (O8.strs.below hV) hl ht);have HH:=lH h;have HT8:=lH T8;have HK8:=lH K8;have HO8:=lH O8;have HL8:=lH L8;have HW8:=lH hw8;obtain⟨Q,hQ⟩:∃Q,Q=bs kind fields fold p.all:=⟨_,rfl⟩;rw[<-hQ] at HP8;obtain⟨⟨qm,qt,qk,qn,qr,qf⟩,qe⟩:=Q;have HQ:=lH hQ;rw[<-hQ]
 have hor:(∃m,p.all.length=m+1)\/(p.all.length=0/\(kind==2)=true):=by
  cases hpa:p.all with
  | nil=>
    rcases hk with hk|hk
    ·exact absurd hpa hk
    ·exact Or.inr ⟨rfl,by subst hk;rfl⟩
  | cons x r=>exact Or.inl ⟨r.length,rfl⟩
 have a8:w.cell? ⟨b,8,none⟩=some (.bool false):=by rw[<-hf];exact h.k.cell 8
 clear h hk T8 K8 O8 L8 M8 hm hfi hl ht hQ hB;have HV:Hid (va=.slice pp p.all.length cc):=hsh;go_enter Tryz.func71,Tryz.ntmps71
 rcases hor with ⟨m,hm⟩|⟨hm,h72⟩;all_goals rw[hsh,hm] at a7
 all_goals clear hm hsh
 all_goals go_wp2_with fail
 all_goals refine br (S:=PlS b va kind a fields c d fold) (by kernel_rfl) ?_
 all_goals intro V0 hV0
 all_goals rw[<-HW8.out] at hV0
 ·
  have hb8:Below w8.heap.size w8 V0:=by rw[hV0];exact(tU _ _).drew
  have K0:ac V0 b (dP g va vf kind a fields c d fold { p with fin:=true }) 114:=HK8.out.call hb8;have h0:=aI.pls K0 (B:=0) (vl:=va);have HB8:=lH hb8;have HK0:=lH K0;clear hV0 hb8 K0;refine tV (i:=0) (v:=.pointer (some ⟨b,0,none⟩)) rfl (by kernel_rfl) (by kernel_rfl) (by kernel_rfl) (fun _ _ _ h=>h) (Or.inl ⟨by kernel_rfl,?hy1⟩) h0 ?rest1
  case hy1=>
   intro v hv;clear hv;go_simp
  (try simp only[Act.put,lS,lZ,lC])
  refine tV (i:=1) (v:=.pointer (some ⟨b,0,none⟩)) rfl (by kernel_rfl) (by kernel_rfl) (by kernel_rfl) (fun _ _ _ h=>h) (Or.inl ⟨by kernel_rfl,?hy2⟩) h0 ?rest2
  case hy2=>
   intro v hv;clear hv;go_simp
  (try simp only[Act.put,lS,lZ,lC])
  refine tV (i:=2) (v:=.pointer (some ⟨b,0,none⟩)) rfl (by kernel_rfl) (by kernel_rfl) (by kernel_rfl) (fun _ _ _ h=>h) (Or.inl ⟨by kernel_rfl,?hy3⟩) h0 ?rest3
  case hy3=>
   intro v hv;clear hv;go_simp
  (try simp only[Act.put,lS,lZ,lC])
  refine tV (i:=3) (v:=.pointer (some ⟨b,0,none⟩)) rfl (by kernel_rfl) (by kernel_rfl) (by kernel_rfl) (fun _ _ _ h=>h) (Or.inl ⟨by kernel_rfl,?hy4⟩) h0 ?rest4
  case hy4=>
   intro v hv;clear hv;go_simp
  (try simp only[Act.put,lS,lZ,lC])
  refine tV (i:=4) (v:=.pointer (some ⟨b,1,none⟩)) rfl (by kernel_rfl) (by kernel_rfl) (by kernel_rfl) (fun _ _ _ h=>h) (Or.inl ⟨by kernel_rfl,?hy5⟩) h0 ?rest5
  case hy5=>
   intro v hv;clear hv;go_simp
  (try simp only[Act.put,lS,lZ,lC])
  refine tV (i:=5) (v:=.int .i64 kind) rfl (by kernel_rfl) (by kernel_rfl) (by kernel_rfl) (fun _ _ _ h=>h) (Or.inl ⟨by kernel_rfl,?hy6⟩) h0 ?rest6
  case hy6=>
   intro v hv;have q1:=hv.c1;clear hv;go_simp
  (try simp only[Act.put,lS,lZ,lC])
  refine tV (i:=6) (v:=.pointer (some ⟨b,0,none⟩)) rfl (by kernel_rfl) (by kernel_rfl) (by kernel_rfl) (fun _ _ _ h=>h) (Or.inl ⟨by kernel_rfl,?hy7⟩) h0 ?rest7
  case hy7=>
   intro v hv;clear hv;go_simp
  (try simp only[Act.put,lS,lZ,lC])
  refine tV (i:=7) (v:=.pointer (some ⟨b,0,none⟩)) rfl (by kernel_rfl) (by kernel_rfl) (by kernel_rfl) (fun _ _ _ h=>h) (Or.inl ⟨by kernel_rfl,?hy8⟩) h0 ?rest8
  case hy8=>
   intro v hv;clear hv;go_simp
  (try simp only[Act.put,lS,lZ,lC])
  refine tV (i:=8) (v:=.pointer (some ⟨b,2,none⟩)) rfl (by kernel_rfl) (by kernel_rfl) (by kernel_rfl) (fun _ _ _ h=>h) (Or.inl ⟨by kernel_rfl,?hy9⟩) h0 ?rest9
  case hy9=>
   intro v hv;clear hv;go_simp
  (try simp only[Act.put,lS,lZ,lC])
  refine tV (i:=9) (v:=.agg #[.int .i64 a,.int .i64 fields,.int .i64 c,.int .i64 d,.int .i64 fold]) rfl (by kernel_rfl) (by kernel_rfl) (by kernel_rfl) (fun _ _ _ h=>h) (Or.inl ⟨by kernel_rfl,?hy10⟩) h0 ?rest10
  case hy10=>
   intro v hv;have q2:=hv.c2;have q3:=hv.c3;have q4:=hv.c4;have q5:=hv.c5;have q6:=hv.c6;clear hv;go_simp
  (try simp only[Act.put,lS,lZ,lC])
  refine tV (i:=10) (v:=.pointer (some ⟨b,0,none⟩)) rfl (by kernel_rfl) (by kernel_rfl) (by kernel_rfl) (fun _ _ _ h=>h) (Or.inl ⟨by kernel_rfl,?hy11⟩) h0 ?rest11
  case hy11=>
   intro v hv;clear hv;go_simp
  (try simp only[Act.put,lS,lZ,lC])
  refine tV (i:=11) (v:=.pointer (some ⟨b,0,none⟩)) rfl (by kernel_rfl) (by kernel_rfl) (by kernel_rfl) (fun _ _ _ h=>h) (Or.inl ⟨by kernel_rfl,?hy12⟩) h0 ?rest12
  case hy12=>
   intro v hv;clear hv;go_simp
  (try simp only[Act.put,lS,lZ,lC])
  refine tV (i:=12) (v:=.pointer (some ⟨b,7,none⟩)) rfl (by kernel_rfl) (by kernel_rfl) (by kernel_rfl) (fun _ _ _ h=>h) (Or.inl ⟨by kernel_rfl,?hy13⟩) h0 ?rest13
  case hy13=>
   intro v hv;clear hv;go_simp
  (try simp only[Act.put,lS,lZ,lC])
  refine tV (i:=13) (v:=va) rfl (by kernel_rfl) (by kernel_rfl) (by kernel_rfl) (fun _ _ _ h=>h) (Or.inl ⟨by kernel_rfl,?hy14⟩) h0 ?rest14
  case hy14=>
   intro v hv;have q7:=hv.c7;clear hv;go_simp
  (try simp only[Act.put,lS,lZ,lC])
  refine uq (rs:=[14]) (by kernel_rfl) (by simp) ?_;refine uf rfl (fun K hK=>?_) um;go_simp;refine(HP8.out _ HB8.out).mono ?_;rintro e V1 ⟨f,rfl,hof,hb1⟩;obtain⟨pf,cf,rfl⟩:=aV hof;simp only[Hd.row] at hof ⊢;have K1:ac V1 b (dP g va vf kind a fields c d fold { p with fin:=true }) 114:=HK0.out.call hb1;have h1:=aI.pls K1 (B:=0) (vl:=va);have HK1:=lH K1;have HO1:=lH hof;have HB1:=lH hb1;clear hof hb1 h0 K1;refine hK _ _ h1 (fun _=>?_);clear hK K;(try simp only[Act.put,lS,lZ,lC])
  refine tV (i:=15) (v:=.tuple #[.agg #[.string qm,.string qt,.int .i64 qk,.int .i64 qn,.string qr,.slice pf qf.length cf],.int .i64 qe]) rfl (by kernel_rfl) (by kernel_rfl) (by kernel_rfl) (fun _ _ _ h=>h) (Or.inl ⟨by kernel_rfl,?hy15⟩) h1 ?rest15
  case hy15=>
   intro v hv;clear hv;go_simp
  (try simp only[Act.put,lS,lZ,lC])
  refine tV (i:=16) (v:=.agg #[.string qm,.string qt,.int .i64 qk,.int .i64 qn,.string qr,.slice pf qf.length cf]) rfl (by kernel_rfl) (by kernel_rfl) (by kernel_rfl) (fun _ _ _ h=>h) (Or.inl ⟨by kernel_rfl,?hy16⟩) h1 ?rest16
  case hy16=>
   intro v hv;clear hv;go_simp
  (try simp only[Act.put,lS,lZ,lC])
  refine tV (i:=17) (v:=.int .i64 qe) rfl (by kernel_rfl) (by kernel_rfl) (by kernel_rfl) (fun _ _ _ h=>h) (Or.inl ⟨by kernel_rfl,?hy17⟩) h1 ?rest17
  case hy17=>
   intro v hv;clear hv;go_simp
  (try simp only[Act.put,lS,lZ,lC])
  refine tV (i:=18) (v:=.pointer (some ⟨b,0,none⟩)) rfl (by kernel_rfl) (by kernel_rfl) (by kernel_rfl) (fun _ _ _ h=>h) (Or.inl ⟨by kernel_rfl,?hy18⟩) h1 ?rest18
  case hy18=>
   intro v hv;clear hv;go_simp
  (try simp only[Act.put,lS,lZ,lC])
  refine tV (i:=19) (v:=.pointer (some ⟨b,9,none⟩)) rfl (by kernel_rfl) (by kernel_rfl) (by kernel_rfl) (fun _ _ _ h=>h) (Or.inl ⟨by kernel_rfl,?hy19⟩) h1 ?rest19
  case hy19=>
   intro v hv;clear hv;go_simp
  (try simp only[Act.put,lS,lZ,lC])
  refine uq (rs:=[20]) (by kernel_rfl) (by simp) ?_;refine uf rfl (fun K hK=>?_) um;have K1:=HK1.out;have z9:V1.frozen? ⟨b,9,none⟩=false:=K1.froz 9;have z10:V1.frozen? ⟨b,10,none⟩=false:=K1.froz 10;have z11:V1.frozen? ⟨b,11,none⟩=false:=K1.froz 11;have z12:V1.frozen? ⟨b,12,none⟩=false:=K1.froz 12;have z13:V1.frozen? ⟨b,13,none⟩=false:=K1.froz 13;have z14:V1.frozen? ⟨b,14,none⟩=false:=K1.froz 14;have y9:V1.cell? ⟨b,9,none⟩=some (.string p.hd.m):=K1.cell 9;have y10:V1.cell? ⟨b,10,none⟩=some (.string p.hd.t):=K1.cell 10;have y11:V1.cell? ⟨b,11,none⟩=some (.int .i64 p.hd.k):=K1.cell 11;have y12:V1.cell? ⟨b,12,none⟩=some (.int .i64 p.hd.n):=K1.cell 12;have y13:V1.cell? ⟨b,13,none⟩=some (.string p.hd.r):=K1.cell 13;have y14:V1.cell? ⟨b,14,none⟩=some vf:=K1.cell 14;go_simp;clear K1 z9 y9 z10 y10 z11 y11 z12 y12 z13 y13 z14 y14;have K2:=kP HK1.out ⟨qm,qt,qk,qn,qr,qf⟩ (.slice pf qf.length cf);have h2:=aI.pls K2 (B:=0) (vl:=va);have HK2:=lH K2;clear K2 h1;refine hK _ _ h2 (fun _=>?_);clear hK K;(try simp only[Act.put,lS,lZ,lC])
  have T2:aa (fun j=>j=b) V1 ((((((V1.setCell ⟨b,9,none⟩ (.string qm)).setCell ⟨b,10,none⟩ (.string qt)).setCell ⟨b,11,none⟩ (.int .i64 qk)).setCell ⟨b,12,none⟩ (.int .i64 qn)).setCell ⟨b,13,none⟩ (.string qr)).setCell ⟨b,14,none⟩ (.slice pf qf.length cf)):=iT V1 b ⟨qm,qt,qk,qn,qr,qf⟩ (.slice pf qf.length cf);have HT2:=lH T2;clear T2;unfold sH at HK2 h2;simp only at HK2 h2;generalize ((((((V1.setCell ⟨b,9,none⟩ (.string qm)).setCell ⟨b,10,none⟩ (.string qt)).setCell ⟨b,11,none⟩ (.int .i64 qk)).setCell ⟨b,12,none⟩ (.int .i64 qn)).setCell ⟨b,13,none⟩ (.string qr)).setCell ⟨b,14,none⟩ (.slice pf qf.length cf))=V2 at HK2 h2 HT2 ⊢;refine tV (i:=21) (v:=.pointer (some ⟨b,0,none⟩)) rfl (by kernel_rfl) (by kernel_rfl) (by kernel_rfl) (fun _ _ _ h=>h) (Or.inl ⟨by kernel_rfl,?hy20⟩) h2 ?rest20
  case hy20=>
   intro v hv;clear hv;go_simp
  (try simp only[Act.put,lS,lZ,lC])
  refine tV (i:=22) (v:=.pointer (some ⟨b,15,none⟩)) rfl (by kernel_rfl) (by kernel_rfl) (by kernel_rfl) (fun _ _ _ h=>h) (Or.inl ⟨by kernel_rfl,?hy21⟩) h2 ?rest21
  case hy21=>
   intro v hv;clear hv;go_simp
  (try simp only[Act.put,lS,lZ,lC])
  refine uq (rs:=[23]) (by kernel_rfl) (by simp) ?_;refine uf rfl (fun K hK=>?_) um;have K2:=HK2.out;have z15:V2.frozen? ⟨b,15,none⟩=false:=K2.froz 15;have y15:V2.cell? ⟨b,15,none⟩=some (.int .i64 p.e):=K2.cell 15;go_simp;clear K2 y15 z15;have h3:=aI.pls (HK2.out.set 15 (.int .i64 qe)) (B:=0) (vl:=va) (p:={ p with fin:=true,hd:=⟨qm,qt,qk,qn,qr,qf⟩,e:=qe }) (vf:=.slice pf qf.length cf) (g:=g);refine hK _ _ h3 (fun _=>?_);clear hK K h3 h2;(try simp only[Act.put,lS,lZ,lC])
  refine wpAnyH_done (by kernel_rfl) ?_ _;go_wp2_with fail
  go_end0
  have hb:=HH.out.lt;have hsz:=HH.out.l.sz;have T0:aa (fun j=>j=b) w8 V2:=((aa.of_below HB8.out).trans (aa.of_below HB1.out)).trans HT2.out;have T3:aa (fun j=>j=b) w8 (V2.setCell ⟨b,15,none⟩ (.int .i64 qe)):=T0.setCell (p:=⟨b,15,none⟩) rfl _;have T4:aa (fun j=>j=b) V1 (V2.setCell ⟨b,15,none⟩ (.int .i64 qe)):=HT2.out.setCell (p:=⟨b,15,none⟩) rfl _;have hB:∀k,B<=k->¬k=b:=fun k hk e=>by omega
  have hs8:=HT8.out.size;have hs0:=HB8.out.size;exact⟨rfl,.slice pf qf.length cf,⟨HK2.out.set 15 (.int .i64 qe),HL8.out.touch T3 (fun e=>HH.out.ne e.symm) (fun k hk=>hB k (HL8.out.o.lt k hk).1),ab HO8.out T3 (fun k hk=>hB k (ao.lt HO8.out k hk).1),ab (aj.lower HO1.out (by omega)) T4 (fun k hk=>hB k (aj.lt (aj.lower HO1.out (show B<=V0.heap.size by omega)) k hk).1),fun e=>(by cases e),hb,HH.out.ne,HH.out.b0,HH.out.g0,HH.out.n⟩,HT8.out.trans T3⟩
 ·
  have hb8:Below w8.heap.size w8 V0:=by rw[hV0];exact(tU _ _).drew
  have K0:ac V0 b (dP g va vf kind a fields c d fold { p with fin:=true }) 114:=HK8.out.call hb8;have h0:=aI.pls K0 (B:=0) (vl:=va);have HB8:=lH hb8;have HK0:=lH K0;clear hV0 hb8 K0;refine tV (i:=0) (v:=.pointer (some ⟨b,0,none⟩)) rfl (by kernel_rfl) (by kernel_rfl) (by kernel_rfl) (fun _ _ _ h=>h) (Or.inl ⟨by kernel_rfl,?hz1⟩) h0 ?resu1
  case hz1=>
   intro v hv;clear hv;go_simp
  (try simp only[Act.put,lS,lZ,lC])
  refine tV (i:=1) (v:=.pointer (some ⟨b,0,none⟩)) rfl (by kernel_rfl) (by kernel_rfl) (by kernel_rfl) (fun _ _ _ h=>h) (Or.inl ⟨by kernel_rfl,?hz2⟩) h0 ?resu2
  case hz2=>
   intro v hv;clear hv;go_simp
  (try simp only[Act.put,lS,lZ,lC])
  refine tV (i:=2) (v:=.pointer (some ⟨b,0,none⟩)) rfl (by kernel_rfl) (by kernel_rfl) (by kernel_rfl) (fun _ _ _ h=>h) (Or.inl ⟨by kernel_rfl,?hz3⟩) h0 ?resu3
  case hz3=>
   intro v hv;clear hv;go_simp
  (try simp only[Act.put,lS,lZ,lC])
  refine tV (i:=3) (v:=.pointer (some ⟨b,0,none⟩)) rfl (by kernel_rfl) (by kernel_rfl) (by kernel_rfl) (fun _ _ _ h=>h) (Or.inl ⟨by kernel_rfl,?hz4⟩) h0 ?resu4
  case hz4=>
   intro v hv;clear hv;go_simp
  (try simp only[Act.put,lS,lZ,lC])
  refine tV (i:=4) (v:=.pointer (some ⟨b,1,none⟩)) rfl (by kernel_rfl) (by kernel_rfl) (by kernel_rfl) (fun _ _ _ h=>h) (Or.inl ⟨by kernel_rfl,?hz5⟩) h0 ?resu5
  case hz5=>
   intro v hv;clear hv;go_simp
  (try simp only[Act.put,lS,lZ,lC])
  refine tV (i:=5) (v:=.int .i64 kind) rfl (by kernel_rfl) (by kernel_rfl) (by kernel_rfl) (fun _ _ _ h=>h) (Or.inl ⟨by kernel_rfl,?hz6⟩) h0 ?resu6
  case hz6=>
   intro v hv;have q1:=hv.c1;clear hv;go_simp
  (try simp only[Act.put,lS,lZ,lC])
  refine tV (i:=6) (v:=.pointer (some ⟨b,0,none⟩)) rfl (by kernel_rfl) (by kernel_rfl) (by kernel_rfl) (fun _ _ _ h=>h) (Or.inl ⟨by kernel_rfl,?hz7⟩) h0 ?resu7
  case hz7=>
   intro v hv;clear hv;go_simp
  (try simp only[Act.put,lS,lZ,lC])
  refine tV (i:=7) (v:=.pointer (some ⟨b,0,none⟩)) rfl (by kernel_rfl) (by kernel_rfl) (by kernel_rfl) (fun _ _ _ h=>h) (Or.inl ⟨by kernel_rfl,?hz8⟩) h0 ?resu8
  case hz8=>
   intro v hv;clear hv;go_simp
  (try simp only[Act.put,lS,lZ,lC])
  refine tV (i:=8) (v:=.pointer (some ⟨b,2,none⟩)) rfl (by kernel_rfl) (by kernel_rfl) (by kernel_rfl) (fun _ _ _ h=>h) (Or.inl ⟨by kernel_rfl,?hz9⟩) h0 ?resu9
  case hz9=>
   intro v hv;clear hv;go_simp
  (try simp only[Act.put,lS,lZ,lC])
  refine tV (i:=9) (v:=.agg #[.int .i64 a,.int .i64 fields,.int .i64 c,.int .i64 d,.int .i64 fold]) rfl (by kernel_rfl) (by kernel_rfl) (by kernel_rfl) (fun _ _ _ h=>h) (Or.inl ⟨by kernel_rfl,?hz10⟩) h0 ?resu10
  case hz10=>
   intro v hv;have q2:=hv.c2;have q3:=hv.c3;have q4:=hv.c4;have q5:=hv.c5;have q6:=hv.c6;clear hv;go_simp
  (try simp only[Act.put,lS,lZ,lC])
  refine tV (i:=10) (v:=.pointer (some ⟨b,0,none⟩)) rfl (by kernel_rfl) (by kernel_rfl) (by kernel_rfl) (fun _ _ _ h=>h) (Or.inl ⟨by kernel_rfl,?hz11⟩) h0 ?resu11
  case hz11=>
   intro v hv;clear hv;go_simp
  (try simp only[Act.put,lS,lZ,lC])
  refine tV (i:=11) (v:=.pointer (some ⟨b,0,none⟩)) rfl (by kernel_rfl) (by kernel_rfl) (by kernel_rfl) (fun _ _ _ h=>h) (Or.inl ⟨by kernel_rfl,?hz12⟩) h0 ?resu12
  case hz12=>
   intro v hv;clear hv;go_simp
  (try simp only[Act.put,lS,lZ,lC])
  refine tV (i:=12) (v:=.pointer (some ⟨b,7,none⟩)) rfl (by kernel_rfl) (by kernel_rfl) (by kernel_rfl) (fun _ _ _ h=>h) (Or.inl ⟨by kernel_rfl,?hz13⟩) h0 ?resu13
  case hz13=>
   intro v hv;clear hv;go_simp
  (try simp only[Act.put,lS,lZ,lC])
  refine tV (i:=13) (v:=va) rfl (by kernel_rfl) (by kernel_rfl) (by kernel_rfl) (fun _ _ _ h=>h) (Or.inl ⟨by kernel_rfl,?hz14⟩) h0 ?resu14
  case hz14=>
   intro v hv;have q7:=hv.c7;clear hv;go_simp
  (try simp only[Act.put,lS,lZ,lC])
  refine uq (rs:=[14]) (by kernel_rfl) (by simp) ?_;refine uf rfl (fun K hK=>?_) um;go_simp;refine(HP8.out _ HB8.out).mono ?_;rintro e V1 ⟨f,rfl,hof,hb1⟩;obtain⟨pf,cf,rfl⟩:=aV hof;simp only[Hd.row] at hof ⊢;have K1:ac V1 b (dP g va vf kind a fields c d fold { p with fin:=true }) 114:=HK0.out.call hb1;have h1:=aI.pls K1 (B:=0) (vl:=va);have HK1:=lH K1;have HO1:=lH hof;have HB1:=lH hb1;clear hof hb1 h0 K1;refine hK _ _ h1 (fun _=>?_);clear hK K;(try simp only[Act.put,lS,lZ,lC])
  refine tV (i:=15) (v:=.tuple #[.agg #[.string qm,.string qt,.int .i64 qk,.int .i64 qn,.string qr,.slice pf qf.length cf],.int .i64 qe]) rfl (by kernel_rfl) (by kernel_rfl) (by kernel_rfl) (fun _ _ _ h=>h) (Or.inl ⟨by kernel_rfl,?hz15⟩) h1 ?resu15
  case hz15=>
   intro v hv;clear hv;go_simp
  (try simp only[Act.put,lS,lZ,lC])
  refine tV (i:=16) (v:=.agg #[.string qm,.string qt,.int .i64 qk,.int .i64 qn,.string qr,.slice pf qf.length cf]) rfl (by kernel_rfl) (by kernel_rfl) (by kernel_rfl) (fun _ _ _ h=>h) (Or.inl ⟨by kernel_rfl,?hz16⟩) h1 ?resu16
  case hz16=>
   intro v hv;clear hv;go_simp
  (try simp only[Act.put,lS,lZ,lC])
  refine tV (i:=17) (v:=.int .i64 qe) rfl (by kernel_rfl) (by kernel_rfl) (by kernel_rfl) (fun _ _ _ h=>h) (Or.inl ⟨by kernel_rfl,?hz17⟩) h1 ?resu17
  case hz17=>
   intro v hv;clear hv;go_simp
  (try simp only[Act.put,lS,lZ,lC])
  refine tV (i:=18) (v:=.pointer (some ⟨b,0,none⟩)) rfl (by kernel_rfl) (by kernel_rfl) (by kernel_rfl) (fun _ _ _ h=>h) (Or.inl ⟨by kernel_rfl,?hz18⟩) h1 ?resu18
  case hz18=>
   intro v hv;clear hv;go_simp
  (try simp only[Act.put,lS,lZ,lC])
  refine tV (i:=19) (v:=.pointer (some ⟨b,9,none⟩)) rfl (by kernel_rfl) (by kernel_rfl) (by kernel_rfl) (fun _ _ _ h=>h) (Or.inl ⟨by kernel_rfl,?hz19⟩) h1 ?resu19
  case hz19=>
   intro v hv;clear hv;go_simp
  (try simp only[Act.put,lS,lZ,lC])
  refine uq (rs:=[20]) (by kernel_rfl) (by simp) ?_;refine uf rfl (fun K hK=>?_) um;have K1:=HK1.out;have z9:V1.frozen? ⟨b,9,none⟩=false:=K1.froz 9;have z10:V1.frozen? ⟨b,10,none⟩=false:=K1.froz 10;have z11:V1.frozen? ⟨b,11,none⟩=false:=K1.froz 11;have z12:V1.frozen? ⟨b,12,none⟩=false:=K1.froz 12;have z13:V1.frozen? ⟨b,13,none⟩=false:=K1.froz 13;have z14:V1.frozen? ⟨b,14,none⟩=false:=K1.froz 14;have y9:V1.cell? ⟨b,9,none⟩=some (.string p.hd.m):=K1.cell 9;have y10:V1.cell? ⟨b,10,none⟩=some (.string p.hd.t):=K1.cell 10;have y11:V1.cell? ⟨b,11,none⟩=some (.int .i64 p.hd.k):=K1.cell 11;have y12:V1.cell? ⟨b,12,none⟩=some (.int .i64 p.hd.n):=K1.cell 12;have y13:V1.cell? ⟨b,13,none⟩=some (.string p.hd.r):=K1.cell 13;have y14:V1.cell? ⟨b,14,none⟩=some vf:=K1.cell 14;go_simp;clear K1 z9 y9 z10 y10 z11 y11 z12 y12 z13 y13 z14 y14;have K2:=kP HK1.out ⟨qm,qt,qk,qn,qr,qf⟩ (.slice pf qf.length cf);have h2:=aI.pls K2 (B:=0) (vl:=va);have HK2:=lH K2;clear K2 h1;refine hK _ _ h2 (fun _=>?_);clear hK K;(try simp only[Act.put,lS,lZ,lC])
  have T2:aa (fun j=>j=b) V1 ((((((V1.setCell ⟨b,9,none⟩ (.string qm)).setCell ⟨b,10,none⟩ (.string qt)).setCell ⟨b,11,none⟩ (.int .i64 qk)).setCell ⟨b,12,none⟩ (.int .i64 qn)).setCell ⟨b,13,none⟩ (.string qr)).setCell ⟨b,14,none⟩ (.slice pf qf.length cf)):=iT V1 b ⟨qm,qt,qk,qn,qr,qf⟩ (.slice pf qf.length cf);have HT2:=lH T2;clear T2;unfold sH at HK2 h2;simp only at HK2 h2;generalize ((((((V1.setCell ⟨b,9,none⟩ (.string qm)).setCell ⟨b,10,none⟩ (.string qt)).setCell ⟨b,11,none⟩ (.int .i64 qk)).setCell ⟨b,12,none⟩ (.int .i64 qn)).setCell ⟨b,13,none⟩ (.string qr)).setCell ⟨b,14,none⟩ (.slice pf qf.length cf))=V2 at HK2 h2 HT2 ⊢;refine tV (i:=21) (v:=.pointer (some ⟨b,0,none⟩)) rfl (by kernel_rfl) (by kernel_rfl) (by kernel_rfl) (fun _ _ _ h=>h) (Or.inl ⟨by kernel_rfl,?hz20⟩) h2 ?resu20
  case hz20=>
   intro v hv;clear hv;go_simp
  (try simp only[Act.put,lS,lZ,lC])
  refine tV (i:=22) (v:=.pointer (some ⟨b,15,none⟩)) rfl (by kernel_rfl) (by kernel_rfl) (by kernel_rfl) (fun _ _ _ h=>h) (Or.inl ⟨by kernel_rfl,?hz21⟩) h2 ?resu21
  case hz21=>
   intro v hv;clear hv;go_simp
  (try simp only[Act.put,lS,lZ,lC])
  refine uq (rs:=[23]) (by kernel_rfl) (by simp) ?_;refine uf rfl (fun K hK=>?_) um;have K2:=HK2.out;have z15:V2.frozen? ⟨b,15,none⟩=false:=K2.froz 15;have y15:V2.cell? ⟨b,15,none⟩=some (.int .i64 p.e):=K2.cell 15;go_simp;clear K2 y15 z15;have h3:=aI.pls (HK2.out.set 15 (.int .i64 qe)) (B:=0) (vl:=va) (p:={ p with fin:=true,hd:=⟨qm,qt,qk,qn,qr,qf⟩,e:=qe }) (vf:=.slice pf qf.length cf) (g:=g);refine hK _ _ h3 (fun _=>?_);clear hK K h3 h2;(try simp only[Act.put,lS,lZ,lC])
  refine wpAnyH_done (by kernel_rfl) ?_ _;go_wp2_with fail
  go_end0
  have hb:=HH.out.lt;have hsz:=HH.out.l.sz;have T0:aa (fun j=>j=b) w8 V2:=((aa.of_below HB8.out).trans (aa.of_below HB1.out)).trans HT2.out;have T3:aa (fun j=>j=b) w8 (V2.setCell ⟨b,15,none⟩ (.int .i64 qe)):=T0.setCell (p:=⟨b,15,none⟩) rfl _;have T4:aa (fun j=>j=b) V1 (V2.setCell ⟨b,15,none⟩ (.int .i64 qe)):=HT2.out.setCell (p:=⟨b,15,none⟩) rfl _;have hB:∀k,B<=k->¬k=b:=fun k hk e=>by omega
  have hs8:=HT8.out.size;have hs0:=HB8.out.size;exact⟨rfl,.slice pf qf.length cf,⟨HK2.out.set 15 (.int .i64 qe),HL8.out.touch T3 (fun e=>HH.out.ne e.symm) (fun k hk=>hB k (HL8.out.o.lt k hk).1),ab HO8.out T3 (fun k hk=>hB k (ao.lt HO8.out k hk).1),ab (aj.lower HO1.out (by omega)) T4 (fun k hk=>hB k (aj.lt (aj.lower HO1.out (show B<=V0.heap.size by omega)) k hk).1),fun e=>(by cases e),hb,HH.out.ne,HH.out.b0,HH.out.g0,HH.out.n⟩,HT8.out.trans T3⟩
end Go.Proofs.YthjbodpeckebiaaGreatDoor
-- PaOk
namespace Go.Proofs.YthjbodpeckebiaaGreatDoor
open Go.RowKit
theorem pA {w:World} {b g B:Nat} {vl va vf:Value} {kind a fields c d fold:Int} {p:cY} (h:aI w b g B vl va vf kind a fields c d fold p) (hf:p.fin=false) (hfi:-9223372036854775808<=fields/\fields<=9223372036854775807) {mx:Int} (hm:w.cell? ⟨0,0,none⟩=some (.int .i64 mx)) (hl:p.all.length<=100000) (ht:du p.all<=100000) (s:ByteArray):
 Calls Tryz.prog 71 #[.pointer (some ⟨b,0,none⟩),.string s] w fun e w'=>e=.returned (.tuple #[])/\∃va' vf',aI w' b g B vl va' vf' kind a fields c d fold (eH kind fields fold p s)/\aa (mc b g vl va) w w'/\(va'.ownBlock=va.ownBlock\/∀k,va'.ownBlock=some k->w.heap.size<=k):=by
 by_cases hs:s.size=0
 ·have he:s=⟨#[]⟩:=by
   obtain⟨⟨l⟩⟩:=s;cases l with
   | nil=>rfl
   | cons x r=>exact absurd hs (by show ¬(r.length+1=0);omega)
  subst he;by_cases hk:p.all≠[]\/kind=2
  ·refine(pB h hf hfi hm hl ht hk).mono ?_
   rintro e w' ⟨rfl,vf',hp,t⟩;refine⟨rfl,va,vf',?_,t.mono (fun k _ e=>Or.inl e),Or.inl rfl⟩;unfold eH;rw[if_neg (by simp[hs]),if_pos hk];exact hp
  ·have h1:p.all=[]:=Decidable.not_not.1 (fun e=>hk (Or.inl e))
   have h2:kind≠2:=fun e=>hk (Or.inr e);refine(mW h h1 h2).mono ?_;rintro e w' ⟨rfl,rfl⟩;refine⟨rfl,va,vf,?_,aa.refl _ _,Or.inl rfl⟩;unfold eH;rw[if_neg (by simp[hs]),if_neg hk];exact h
 ·refine(mX h hf s hs hl).mono ?_
  rintro e w' ⟨rfl,va',hp,t,hb⟩;refine⟨rfl,va',vf,?_,t,hb⟩;unfold eH;rw[if_pos hs];exact hp
theorem aI.lines {w w1:World} {b g B:Nat} {vl vl1 va vf:Value} {kind a fields c d fold:Int} {p:cY} {s:dx} (h:aI w b g B vl va vf kind a fields c d fold p) (hf:p.fin=false) (hl:bm w1 g B vl1 s) (t:aa (mb g vl) w w1) (hb:vl1.ownBlock=vl.ownBlock\/∀k,vl1.ownBlock=some k->w.heap.size<=k):aI w1 b g B vl1 va vf kind a fields c d fold { p with ln:=s }:=by
 have hz:=h.z hf;have hb1:=h.lt;have hg1:=h.l.lt
 have hnb:¬mb g vl b:=by
  rintro (e|e)
  ·exact h.ne e
  ·have:=(h.l.o.lt b e).1
   omega
 have hna:∀k,va.ownBlock=some k->¬mb g vl k:=by
  rintro k hk (e|e)
  ·have:=(h.o.lt k hk).1
   omega
  ·exact h.n k e hk
 refine⟨h.k.touch t hnb,hl,ab h.o t hna,?_,h.z,h.lt,h.ne,h.b0,h.g0,?_⟩
 ·rw[show ({ p with ln:=s }:cY).hd=cR from hz.2,hz.1]
  exact aj.start _ _
 ·intro k hk e
  rcases hb with hb|hb
  ·exact h.n k (hb▸hk) e
  ·have:=hb k hk
   have:=(h.o.lt k e).2;omega
theorem aI.setE {w:World} {b g B:Nat} {vl va vf:Value} {kind a fields c d fold:Int} {p:cY} (h:aI w b g B vl va vf kind a fields c d fold p) (e:Int):aI (w.setCell ⟨b,15,none⟩ (.int .i64 e)) b g B vl va vf kind a fields c d fold { p with e:=e }:=by
 have T:=(aa.refl (fun j=>j=b) w).setCell (p:=⟨b,15,none⟩) rfl (.int .i64 e);have hB:∀k,B<=k->¬k=b:=fun k hk e=>by have:=h.lt;omega
 exact⟨h.k.set 15 (.int .i64 e),h.l.touch T (fun e=>h.ne e.symm) (fun k hk=>hB k (h.l.o.lt k hk).1),ab h.o T (fun k hk=>hB k (h.o.lt k hk).1),ab h.f T (fun k hk=>hB k (h.f.lt k hk).1),h.z,h.lt,h.ne,h.b0,h.g0,h.n⟩
theorem aI.drewN {w:World} {b g B:Nat} {vl va vf:Value} {kind a fields c d fold:Int} {p:cY} (h:aI w b g B vl va vf kind a fields c d fold p) (n:Nat):aI (w.drewN n) b g B vl va vf kind a fields c d fold p:=⟨h.k.drewN n,h.l.drewN n,h.o,h.f,h.z,h.lt,h.ne,h.b0,h.g0,h.n⟩
theorem lM:∀l:List ByteArray,(gR l).1.length<=l.length
 | []=>nR _
 | s :: l=>by
   have ih:=lM l;unfold gR;split
   ·exact tX _
   split
   ·exact tX _
   ·simpa using ih
theorem kN (fold:Int) (l:List ByteArray):(bN fold l).1.length<=l.length:=by
 unfold bN;cases hu:bY fold l with
 | none=>exact tX _
 | some out=>
   have h1:out.length<=l.length:=(gi fold l l.length (nR _) out (by rw[uW];exact hu)).1;exact nT (lM out) h1
theorem oU (kind fields fold:Int) (l:List ByteArray):(bs kind fields fold l).1.fs.length<=l.length:=by
 unfold bs;split
 ·exact tX _
 ·cases l with
  | nil=>exact tX _
  | cons s rest=>
    show (if (aY kind s).2≠0 then (cR,(aY kind s).2) else if fields<(rest.length:Int) then (cR,4) else if (bN fold rest).2≠0 then (cR,(bN fold rest).2) else ({ (aY kind s).1 with fs:=(bN fold rest).1 },0)).1.fs.length<=rest.length+1;split
    ·exact tX _
    split
    ·exact tX _
    split
    ·exact tX _
    ·exact Nat.le_succ_of_le (kN fold rest)
structure gK (p:cY):Prop where
 l:eB p.ln
 t:(p.ln.line.length+du p.all+p.all.length:Int)<=p.ln.spent
 w:p.ln.whole=false
 e:p.fin=false->p.e=0->p.ln.e=0
 f:p.hd.fs.length<=65536
theorem gK.all {p:cY} (h:gK p):p.all.length<=65536/\du p.all<=65536:=by
 have:=h.t;have:=h.l.m;have:=h.l.l0;omega
theorem tG (s:dx) (c:UInt8):s.spent - s.line.length+(if (aW s c).1.whole=true/\s.whole=false then 1 else 0)<=(aW s c).1.spent - (aW s c).1.line.length:=by
 obtain⟨L,S,Ln,Wi,Tu,Wh,E⟩:=s;unfold aW;repeat' split
 all_goals simp_all
 all_goals omega
theorem fy:∀(l:List UInt8) (s:dx),s.spent - s.line.length+(if (ag l s).1.whole=true/\s.whole=false then 1 else 0)<=(ag l s).1.spent - (ag l s).1.line.length
 | [],s=>by
   have:¬(s.whole=true/\s.whole=false):=by rintro ⟨a,b⟩;rw[a] at b;cases b
   show s.spent - s.line.length+(if s.whole=true/\s.whole=false then 1 else 0)<=s.spent - s.line.length;rw[if_neg this];omega
 | c :: r,s=>by
   have hn:∀x:dx,¬(x.whole=true/\x.whole=false):=by rintro x ⟨a,b⟩;rw[a] at b;cases b
   rw[ag];by_cases h1:s.whole=true\/s.e≠0
   ·rw[if_pos h1]
    show s.spent - s.line.length+(if s.whole=true/\s.whole=false then 1 else 0)<=s.spent - s.line.length;rw[if_neg (hn s)];omega
   ·rw[if_neg h1]
    have hs:=tG s c;by_cases h2:(aW s c).2=0
    ·rw[if_pos h2]
     have ih:=fy r { (aW s c).1 with e:=0 }
     have hw:s.whole=false:=by
      cases hw:s.whole with
      | true=>exact absurd (Or.inl hw) h1
      | false=>rfl
     simp only[hw,and_true] at hs ⊢;generalize (ag r { (aW s c).1 with e:=0 }).1=q at ih ⊢;simp only at ih;cases hq:q.whole with
     | false=>
       simp only[hq,uP,false_and,if_false] at ih ⊢;split at hs<;>omega
     | true=>
       cases hp:(aW s c).1.whole with
       | true=>
         simp only[hp,if_true] at hs;simp only[hq,hp,Bool.true_eq_false,and_false,if_false,if_true] at ih ⊢;omega
       | false=>
         simp only[hp,uP,if_false] at hs;simp only[hq,hp,and_self,if_true] at ih ⊢;omega
    ·rw[if_neg h2]
     exact hs
theorem cA {l:List UInt8} {s:dx} (hl:l≠[]) (hw:s.whole=false) (he:s.e=0) (h0:(ag l s).2=0):(ag l s).1.e≠0/\(ag l s).1.whole=false:=by
 cases l with
 | nil=>exact absurd rfl hl
 | cons c r=>
   rw[ag,if_neg (by rw[hw,he];simp)] at h0 ⊢;by_cases h2:(aW s c).2=0
   ·rw[if_pos h2] at h0
    exact absurd h0 (Nat.succ_ne_zero _)
   ·rw[if_neg h2]
    refine⟨h2,?_⟩;revert h2;unfold aW;repeat' split
    all_goals first
     | (intro _;exact hw)
     | (intro hs;exact absurd rfl hs)
theorem rc (kind fields fold:Int) (l:List UInt8) {p:cY} (h:gK p):gK (gx kind fields fold l p):=by
 have h1:=dk l p.ln h.l;have h2:=fy l p.ln;have h3:=h.t;rw[h.w] at h2;simp only[and_true] at h2;unfold gx;generalize (ag l p.ln).1=q at h1 h2 ⊢;cases hq:q.whole with
 | true=>
   simp only[hq,if_true] at h2 ⊢;unfold eH;by_cases hs:(cD q.line).size≠0
   ·rw[if_pos hs]
    refine⟨⟨h1.l0,h1.s0,h1.m,?_⟩,?_,rfl,fun _ e=>e,h.f⟩
    ·have:=h1.s0
     simpa using this
    ·show ((0:Nat):Int)+du (p.all++[cD q.line])+(p.all++[cD q.line]).length<=q.spent
     rw[fJ,j1,ue];simp only[List.length_singleton];omega
   ·rw[if_neg hs]
    split
    ·refine⟨⟨h1.l0,h1.s0,h1.m,by have:=h1.s0;simpa using this⟩,?_,rfl,(fun e=>by cases e),nT (oU _ _ _ _) h.all.1⟩
     show ((0:Nat):Int)+du p.all+p.all.length<=q.spent;omega
    ·refine⟨⟨h1.l0,h1.s0,h1.m,by have:=h1.s0;simpa using this⟩,?_,rfl,fun _ e=>e,h.f⟩
     show ((0:Nat):Int)+du p.all+p.all.length<=q.spent;omega
 | false=>
   simp only[hq,uP,if_false] at h2 ⊢;refine⟨h1,?_,hq,fun _ e=>e,h.f⟩;show (q.line.length:Int)+du p.all+p.all.length<=q.spent;omega
end Go.Proofs.YthjbodpeckebiaaGreatDoor
-- PFeed
namespace Go.Proofs.YthjbodpeckebiaaGreatDoor
open Go.RowKit
def bE (w:World) (v v':Value):Prop:=v'.ownBlock=v.ownBlock\/∀k,v'.ownBlock=some k->w.heap.size<=k
theorem bE.refl (w:World) (v:Value):bE w v v:=Or.inl rfl
theorem bE.trans {w w1:World} {v v1 v2:Value} (h:bE w v v1) (hs:w.heap.size<=w1.heap.size) (k:bE w1 v1 v2):bE w v v2:=by
 rcases k with k|k
 ·rcases h with h|h
  ·exact Or.inl (k.trans h)
  ·exact Or.inr (fun j hj=>h j (k▸hj))
 ·exact Or.inr (fun j hj=>nT hs (k j hj))
theorem lN {w:World} {b g:Nat} {vl va vl1 va1:Value} (hl:bE w vl vl1) (ha:bE w va va1):∀i,i<w.heap.size->mc b g vl1 va1 i->mc b g vl va i:=by
 rintro i hi (e|e|e|e)
 ·exact Or.inl e
 ·exact Or.inr (Or.inl e)
 ·rcases hl with hl|hl
  ·exact Or.inr (Or.inr (Or.inl (hl▸e)))
  ·exact absurd (hl i e) (by omega)
 ·rcases ha with ha|ha
  ·exact Or.inr (Or.inr (Or.inr (ha▸e)))
  ·exact absurd (ha i e) (by omega)
theorem tz {b g:Nat} {vl va:Value}:∀i,mb g vl i->mc b g vl va i:=by
 rintro i (e|e)
 ·exact Or.inr (Or.inl e)
 ·exact Or.inr (Or.inr (Or.inl e))
def pM (b:Nat) (w:World):Nat:=match w.cell? ⟨b,15,none⟩ with
 | some (.int _ e)=>if e=0 then 1 else 0
 | _=>0
theorem re {b:Nat} {w:World} {e:Int} (h:w.cell? ⟨b,15,none⟩=some (.int .i64 e)):pM b w=if e=0 then 1 else 0:=by unfold pM;rw[h]
theorem fq (S:ByteArray) (k:Nat):(S.extract k S.size).data.toList=S.data.toList.drop k:=by
 have h1:(S.extract k S.size).data.toList=(S.data.toList.drop k).take (S.size - k):=by simp[ByteArray.data_extract,List.extract_eq_take_drop]
 rw[h1,uu (by rw[t7,<-Lib.size_eq];omega)]
theorem py {w:World} {b g B:Nat} {vl va vf:Value} {kind a fields c d fold:Int} {p:cY} (h:aI w b g B vl va vf kind a fields c d fold p) (hb:gK p) (hfi:-9223372036854775808<=fields/\fields<=9223372036854775807) {mx:Int} (hm:w.cell? ⟨0,0,none⟩=some (.int .i64 mx)) (S:ByteArray) (hS:S.size<=1000000):
 Calls Tryz.prog 47 #[.pointer (some ⟨b,0,none⟩),.string S] w fun e w'=>e=.returned (.tuple #[.int .i64 (cC kind fields fold S.data.toList p).2,.int .i64 (cC kind fields fold S.data.toList p).1.e])/\
  ∃vl' va' vf',aI w' b g B vl' va' vf' kind a fields c d fold (cC kind fields fold S.data.toList p).1/\gK (cC kind fields fold S.data.toList p).1/\aa (mc b g vl va) w w'/\bE w vl vl'/\bE w va va':=by
 obtain⟨R,hR⟩:∃R,R=cC kind fields fold S.data.toList p:=⟨_,rfl⟩;rw[<-hR];have hn:S.data.toList.length=S.size:=(Lib.size_eq S).symm
 have hmB:∀W,aa (mc b g vl va) w W->W.cell? ⟨0,0,none⟩=some (.int .i64 mx):=fun W t=>eW t (by
  show ¬mc b g vl va 0;have h1:=h.b0;have h2:=h.g0;have h3:=h.lt;rintro (e|e|e|e)
  ·omega
  ·omega
  ·have:=(h.l.o.lt 0 e).1
   omega
  ·have:=(h.o.lt 0 e).1
   omega) hm
 have a0:w.cell? ⟨b,0,none⟩=some (.pointer (some ⟨g,0,none⟩)):=h.k.cell 0;have H:=lH h;have HR:=lH hR;have HB:=lH hb;have HN:=lH hn;have HMX:=lH hmB;have HFI:=lH hfi;clear h hR hb hn hmB hfi hm;go_enter Tryz.func47,Tryz.ntmps47
 go_wp2_with fail
 clear a0;go_loopw [4] (fun u4 wr=>∃(k:Nat) (pk:cY) (vlk vak vfk:Value),k<=S.size/\u4=.int .i64 k/\aI wr b g B vlk vak vfk kind a fields c d fold pk/\gK pk/\R=((cC kind fields fold (S.data.toList.drop k) pk).1,k+(cC kind fields fold (S.data.toList.drop k) pk).2)/\aa (mc b g vl va) w wr/\bE w vl vlk/\bE w va vak) (fun u4 wr=>2*(S.size - (intOf u4).toNat)+pM b wr)
 case atStart=>exact⟨0,p,vl,va,vf,tX _,rfl,H.out,HB.out,by rw[HR.out,us,uJ],aa.refl _ _,bE.refl _ _,bE.refl _ _⟩
 case round=>
  obtain⟨k,pk,vlk,vak,vfk,hk,rfl,hat,hok,hpre,htc,hfl,hfa⟩:=hrel;have HA:=lH hat;have HO:=lH hok;have HP:=lH hpre;have HT:=lH htc;have HL:=lH (And.intro hfl hfa);clear hpre htc hfl hfa hok;obtain⟨FI,hFI⟩:∃b,b=pk.fin:=⟨_,rfl⟩;obtain⟨E,hE⟩:∃b,b=pk.e:=⟨_,rfl⟩;have a0:wr.cell? ⟨b,0,none⟩=some (.pointer (some ⟨g,0,none⟩)):=hat.k.cell 0;have a8:wr.cell? ⟨b,8,none⟩=some (.bool FI):=by rw[hFI];exact hat.k.cell 8
  have a15:wr.cell? ⟨b,15,none⟩=some (.int .i64 E):=by rw[hE];exact hat.k.cell 15
  have HW:=lH hFI;have HE:=lH hE;clear hFI hE hat;by_cases hlt:k<S.size
  ·have hk1:decide ((k:Int)<(S.size:Int))=true:=dT (by omega)
   cases FI with
   | true=>
     have hfin:R=(pk,k):=by rw[HP.out,gb _ _ _ _ _ (Or.inl HW.out.symm)];rfl
     have HF:=lH hfin;clear hfin;go_wp2_with fail
     refine aP (by kernel_rfl) (by kernel_rfl) ?_;repeat go_big_quiet_step (fail)
     refine uE ?_;rintro _ ⟨nq,rfl⟩;go_wp2_with fail
     go_ret2
     exact⟨by rw[HF.out,<-HE.out];rfl,vlk,vak,vfk,by rw[HF.out];exact HA.out.drewN nq,by rw[HF.out];exact HO.out,HT.out.drewN nq,HL.out.1,HL.out.2⟩
   | false=>
     by_cases he:E=0
     ·subst he
      obtain⟨T,hT⟩:∃T,T=S.extract k S.size:=⟨_,rfl⟩;have hTl:T.data.toList=S.data.toList.drop k:=by rw[hT];exact fq S k
      have hTs:T.size<=1000000:=by rw[hT,uZ];omega
      have hsl:∀W:World,(Instr.slice 9 (.string S) (some (.int .i64 (k:Int))) none none).run Tryz.prog W=.ok (.string T) W:=fun W=>by
       rw[uK W 9 S Tryz.underlying9 .i64 (k:Int) (by omega) (by omega),uc,<-hT]
      obtain⟨q,hq⟩:∃q,q=ag T.data.toList pk.ln:=⟨_,rfl⟩
      have hne:S.data.toList.drop k≠[]:=by
       intro e;have:=uF List.length e;rw[t7,HN.out] at this;simp at this;omega
      have hle:pk.ln.e=0:=HO.out.e HW.out.symm HE.out.symm;have hit:=jU kind fields fold (S.data.toList.drop k) pk HW.out.symm HE.out.symm hle HO.out.w hne;rw[<-hTl,<-hq,hTl,uo] at hit
      have hql:q.2<=S.size - k:=by
       have:=dj T.data.toList pk.ln;rw[<-hq,hTl,t7,HN.out] at this;exact this
      have hstk:q.2=0->q.1.e≠0/\q.1.whole=false:=by
       rw[hq,hTl];exact cA hne HO.out.w hle
      have hpi:gx kind fields fold (S.data.toList.drop k) pk=if q.1.whole=true then eH kind fields fold { pk with ln:={ q.1 with line:=[],whole:=false },e:=q.1.e } (cD q.1.line) else { pk with ln:=q.1,e:=q.1.e }:=by
       unfold gx;rw[<-hTl,<-hq]
      have HIT:=lH hit;have HQL:=lH hql;have HSTK:=lH hstk;have HPI:=lH hpi;have HPK:=lH (rc kind fields fold (S.data.toList.drop k) HO.out);have HFD:=lH (fun(W:World) (hW:bm W g B vlk pk.ln)=>jN hW HO.out.l T hTs);rw[<-hq] at HFD;have HLS:=lH HA.out.l;clear hit hql hstk hpi hne hle hq hTl hTs hT;obtain⟨q1,q2⟩:=q;go_wp2_with fail
      refine br (S:=fun v=>v.cell? ⟨b,0,none⟩=some (.pointer (some ⟨g,0,none⟩))) (by kernel_rfl) ?_;intro V0 hV0;have h0:V0.cell? ⟨b,0,none⟩=some (.pointer (some ⟨g,0,none⟩)):=by rw[hV0];exact a0
      have hA0:aI V0 b g B vlk vak vfk kind a fields c d fold pk:=by rw[hV0];exact HA.out.drew
      have hT0:aa (mc b g vl va) w V0:=by rw[hV0];exact HT.out.drew
      have HA0:=lH hA0;have HT0:=lH hT0;have HM0:Hid (pM b wr=1):=by show pM b wr=1;rw[re a15];rfl
      clear hV0 hA0 hT0 a0 a8 a15;refine tV (i:=0) (v:=.pointer (some ⟨b,0,none⟩)) rfl (by kernel_rfl) (by kernel_rfl) (by kernel_rfl) (fun _ _ _ h=>h) (Or.inl ⟨by kernel_rfl,?hy1⟩) h0 ?rest1
      case hy1=>
       intro v hv;clear hv;go_simp
      (try simp only[Act.put,lS,lZ,lC])
      refine tV (i:=1) (v:=.pointer (some ⟨b,0,none⟩)) rfl (by kernel_rfl) (by kernel_rfl) (by kernel_rfl) (fun _ _ _ h=>h) (Or.inl ⟨by kernel_rfl,?hy2⟩) h0 ?rest2
      case hy2=>
       intro v hv;clear hv;go_simp
      (try simp only[Act.put,lS,lZ,lC])
      refine tV (i:=2) (v:=.pointer (some ⟨b,0,none⟩)) rfl (by kernel_rfl) (by kernel_rfl) (by kernel_rfl) (fun _ _ _ h=>h) (Or.inl ⟨by kernel_rfl,?hy3⟩) h0 ?rest3
      case hy3=>
       intro v hv;clear hv;go_simp
      (try simp only[Act.put,lS,lZ,lC])
      refine tV (i:=3) (v:=.pointer (some ⟨g,0,none⟩)) rfl (by kernel_rfl) (by kernel_rfl) (by kernel_rfl) (fun _ _ _ h=>h) (Or.inl ⟨by kernel_rfl,?hy4⟩) h0 ?rest4
      case hy4=>
       intro v hv;have q1:=hv;clear hv;go_simp
      (try simp only[Act.put,lS,lZ,lC])
      refine tV (i:=4) (v:=.string S) rfl (by kernel_rfl) (by kernel_rfl) (by kernel_rfl) (fun _ _ _ h=>h) (Or.inl ⟨by kernel_rfl,?hy5⟩) h0 ?rest5
      case hy5=>
       intro v hv;clear hv;go_simp
      (try simp only[Act.put,lS,lZ,lC])
      refine tV (i:=5) (v:=.int .i64 (k:Int)) rfl (by kernel_rfl) (by kernel_rfl) (by kernel_rfl) (fun _ _ _ h=>h) (Or.inl ⟨by kernel_rfl,?hy6⟩) h0 ?rest6
      case hy6=>
       intro v hv;clear hv;go_simp
      (try simp only[Act.put,lS,lZ,lC])
      refine tV (i:=6) (v:=.string T) rfl (by kernel_rfl) (by kernel_rfl) (by kernel_rfl) (fun _ _ _ h=>h) (Or.inl ⟨by kernel_rfl,?hy7⟩) h0 ?rest7
      case hy7=>
       intro v hv;clear hv;go_simp
      (try simp only[Act.put,lS,lZ,lC])
      refine uq (rs:=[7]) (by kernel_rfl) (by simp) ?_;refine uf rfl (fun K hK=>?_) um;go_simp;refine(HFD.out _ HA0.out.l).mono ?_;rintro e V1 ⟨rfl,vl1,hl1,ht1,hb1⟩;have hA1:=HA0.out.lines HW.out.symm hl1 ht1 hb1;have HA1:=lH hA1;have h1:V1.cell? ⟨b,0,none⟩=some (.pointer (some ⟨g,0,none⟩)):=hA1.k.cell 0;have HT1:=lH (aA HT0.out ht1 (fun i hi hp=>lN HL.out.1 HL.out.2 i hi (tz i hp)));have HL1:=lH (HL.out.1.trans HT0.out.size hb1);clear hA1 hl1 ht1 hb1 h0;refine hK _ _ h1 (fun _=>?_);clear hK K;(try simp only[Act.put,lS,lZ,lC])
      refine tV (i:=8) (v:=.tuple #[.int .i64 (q2:Int),.int .i64 q1.e]) rfl (by kernel_rfl) (by kernel_rfl) (by kernel_rfl) (fun _ _ _ h=>h) (Or.inl ⟨by kernel_rfl,?hy8⟩) h1 ?rest8
      case hy8=>
       intro v hv;clear hv;go_simp
      (try simp only[Act.put,lS,lZ,lC])
      refine tV (i:=9) (v:=.int .i64 (q2:Int)) rfl (by kernel_rfl) (by kernel_rfl) (by kernel_rfl) (fun _ _ _ h=>h) (Or.inl ⟨by kernel_rfl,?hy9⟩) h1 ?rest9
      case hy9=>
       intro v hv;clear hv;go_simp
      (try simp only[Act.put,lS,lZ,lC])
      refine tV (i:=10) (v:=.int .i64 q1.e) rfl (by kernel_rfl) (by kernel_rfl) (by kernel_rfl) (fun _ _ _ h=>h) (Or.inl ⟨by kernel_rfl,?hy10⟩) h1 ?rest10
      case hy10=>
       intro v hv;clear hv;go_simp
      (try simp only[Act.put,lS,lZ,lC])
      refine uq (rs:=[11]) (by kernel_rfl) (by simp) ?_;refine uf rfl (fun K hK=>?_) um;go_simp;refine hK _ _ h1 (fun _=>?_);clear hK K;(try simp only[Act.put,lS,lZ,lC])
      refine uq (rs:=[12]) (by kernel_rfl) (by simp) ?_;refine uf rfl (fun K hK=>?_) um;go_simp;refine hK _ _ h1 (fun _=>?_);clear hK K;(try simp only[Act.put,lS,lZ,lC])
      refine wpAnyH_done (by kernel_rfl) ?_ _;obtain⟨WH,hWH⟩:∃x,x=q1.whole:=⟨_,rfl⟩;have hA2:=HA1.out.setE q1.e;have HA2:=lH hA2;have a0:V1.cell? ⟨b,0,none⟩=some (.pointer (some ⟨g,0,none⟩)):=HA1.out.k.cell 0;have a15:V1.cell? ⟨b,15,none⟩=some (.int .i64 pk.e):=HA1.out.k.cell 15;have f15:V1.frozen? ⟨b,15,none⟩=false:=HA1.out.k.froz 15;have HWC:=lH (fun(W:World) (hW:bm W g B vl1 q1)=>dD hW);rw[<-hWH] at HWC;have HWH:=lH hWH
      have hw1:wrap64 ((k:Int)+(q2:Int))=((k+q2:Nat):Int):=by
       have:=HQL.out;rw[uQ _ ⟨by omega,by omega⟩];omega
      clear hA2 h1 hWH;cases WH with
      | false=>
        go_wp2_with (go_at_call 70;refine(HWC.out _ HA2.out.l).mono ?_;rintro e1 w1 ⟨rfl,rfl⟩)
        go_roundw
        case rel=>
         refine⟨k+q2,{ pk with ln:=q1,e:=q1.e },vl1,vak,vfk,by have:=HQL.out;omega,rfl,HA2.out,?_,?_,HT1.out.setCell (p:=⟨b,15,none⟩) (Or.inl rfl) _,HL1.out,HL.out.2⟩
         ·have:=HPK.out
          rw[HPI.out,if_neg (by rw[<-HWH.out];decide)] at this;exact this
         ·rw[HP.out,HIT.out,HPI.out,if_neg (by rw[<-HWH.out];decide)]
          refine Prod.ext rfl ?_;show k+(q2+_)=k+q2+_;omega
        case measure=>
         rw[HM0.out,re (HA2.out.k.cell 15)];simp[intOf];have h1:=HSTK.out;have h2:=HQL.out;by_cases h3:q2=0
         ·have h4:=(h1 h3).1
          rw[if_neg h4];omega
         ·split<;>omega
      | true=>
        have HLC:=lH (fun(W:World) (hW:bm W g B vl1 q1)=>cF hW HWH.out.symm);have hfi2:({ pk with ln:=q1,e:=q1.e }:cY).fin=false:=HW.out.symm;have HPL:=lH (fun(W:World) (vlx:Value) (hx:aI W b g B vlx vak vfk kind a fields c d fold { pk with ln:={ q1 with line:=[],whole:=false },e:=q1.e }) (tx:aa (mc b g vl va) w W)=>pA hx HW.out.symm HFI.out (HMX.out W tx) (nT HO.out.all.1 (by decide)) (nT HO.out.all.2 (by decide)) (cD q1.line));go_wp2_with (first|(go_at_call 70;refine(HWC.out _ HA2.out.l).mono ?_;rintro e1 w1 ⟨rfl,rfl⟩)|(go_at_call 72;refine(HLC.out _ HA2.out.l).mono ?_;rintro e1 w3 ⟨rfl,vl3,hl3,ht3,hb3⟩;have hA3:=HA2.out.lines hfi2 hl3 (ht3.mono (fun i _ e=>Or.inl e)) (Or.inl hb3);have HA3:=lH hA3;have HT3:=lH (aA (HT1.out.setCell (p:=⟨b,15,none⟩) (Or.inl rfl) (.int .i64 q1.e)) ht3 (fun i _ e=>Or.inr (Or.inl e)));have HB3:=lH hb3;clear hA3 hl3 ht3 hb3)|(go_at_call 71;refine(HPL.out _ vl3 HA3.out HT3.out).mono ?_;rintro e1 w4 ⟨rfl,va4,vf4,hA4,ht4,hb4⟩;have HA4:=lH hA4;have HT4:=lH ht4;have HB4:=lH hb4;clear hA4 ht4 hb4))
        have hl3:bE w vl vl3:=by
         rcases HL1.out with h|h
         ·exact Or.inl (HB3.out.trans h)
         ·exact Or.inr (fun j hj=>h j (HB3.out▸hj))
        have HL3:=lH hl3;clear hl3;go_roundw
        case rel=>
         refine⟨k+q2,eH kind fields fold { pk with ln:={ q1 with line:=[],whole:=false },e:=q1.e } (cD q1.line),vl3,va4,vf4,by have:=HQL.out;omega,rfl,HA4.out,?_,?_,aA HT3.out HT4.out (lN HL3.out HL.out.2),HL3.out,HL.out.2.trans HT3.out.size HB4.out⟩
         ·have:=HPK.out
          rw[HPI.out,if_pos HWH.out.symm] at this;exact this
         ·rw[HP.out,HIT.out,HPI.out,if_pos HWH.out.symm]
          refine Prod.ext rfl ?_;show k+(q2+_)=k+q2+_;omega
        case measure=>
         rw[HM0.out,re (HA4.out.k.cell 15)];simp[intOf];have h1:=HSTK.out;have h2:=HQL.out;by_cases h3:q2=0
         ·have h4:=(h1 h3).2
          rw[<-HWH.out] at h4;cases h4
         ·split<;>omega
     ·have h1:(E==0)=false:=by rw[tT];exact he
      have hfin:R=(pk,k):=by rw[HP.out,gb _ _ _ _ _ (Or.inr (HE.out▸he))];rfl
      have HF:=lH hfin;clear hfin;go_wp2_with fail
      refine aP (by kernel_rfl) (by kernel_rfl) ?_;repeat go_big_quiet_step (fail)
      refine uE ?_;rintro _ ⟨nq,rfl⟩;go_wp2_with fail
      go_ret2
      exact⟨by rw[HF.out,<-HE.out];rfl,vlk,vak,vfk,by rw[HF.out];exact HA.out.drewN nq,by rw[HF.out];exact HO.out,HT.out.drewN nq,HL.out.1,HL.out.2⟩
  ·have hk1:decide ((k:Int)<(S.size:Int))=false:=dF (by omega)
   have hfin:R=(pk,k):=by
    rw[HP.out,ug (by have:=HN.out;omega)];rfl
   have HF:=lH hfin;clear hfin;go_wp2_with fail
   refine aP (by kernel_rfl) (by kernel_rfl) ?_;repeat go_big_quiet_step (fail)
   refine uE ?_;rintro _ ⟨nq,rfl⟩;go_wp2_with fail
   go_ret2
   exact⟨by rw[HF.out,<-HE.out];rfl,vlk,vak,vfk,by rw[HF.out];exact HA.out.drewN nq,by rw[HF.out];exact HO.out,HT.out.drewN nq,HL.out.1,HL.out.2⟩
end Go.Proofs.YthjbodpeckebiaaGreatDoor
-- HNew
namespace Go.Proofs.YthjbodpeckebiaaGreatDoor
open Go.RowKit
def pa0 (a:Int):cY:=⟨eI a,[],false,cR,0⟩
theorem mA (kind a fields c d fold:Int) (h:(a<0\/65536<a)\/(kind≠1/\kind≠2)) (w:World):
 Calls Tryz.prog 42 #[.int .i64 kind,.agg #[.int .i64 a,.int .i64 fields,.int .i64 c,.int .i64 d,.int .i64 fold]] w fun e w'=>e=.returned (.pointer none)/\Below w.heap.size w w':=by
 have HB:=lH ((tU w.heap.size w).alloc (nR _) (.cells #[.int .i64 a,.int .i64 fields,.int .i64 c,.int .i64 d,.int .i64 fold] 24));by_cases ha:a<0\/65536<a
 ·have HN:=lH (lw a ha)
  clear h ha;go_enter Tryz.func42,Tryz.ntmps42
  go_wp2_with (go_at_call 68;refine(HN.out _).mono ?_;rintro e1 w1 ⟨rfl,h1⟩;subst h1)
  go_ret;exact⟨rfl,HB.out⟩
 ·have hk:kind≠1/\kind≠2:=by
   rcases h with h|h
   ·exact absurd h ha
   ·exact h
  have e1:(kind != 1)=true:=by simpa using hk.1
  have e2:(kind != 2)=true:=by simpa using hk.2
  have HN:=lH (ba a (by omega) (by omega));have HB2:=lH (HB.out.alloc (HB.out.size) (.cells ((eI a).row (.slice none 0 0)) 136));clear h ha hk;go_enter Tryz.func42,Tryz.ntmps42
  go_wp2_with (go_at_call 68;refine(HN.out _).mono ?_;rintro e1 w1 ⟨rfl,h1⟩;subst h1)
  go_ret;exact⟨rfl,HB2.out⟩
theorem lr (kind a fields c d fold:Int) (h0:0<=a) (h1:a<=65536) (hk:kind=1\/kind=2) (w:World):
 Calls Tryz.prog 42 #[.int .i64 kind,.agg #[.int .i64 a,.int .i64 fields,.int .i64 c,.int .i64 d,.int .i64 fold]] w fun e w'=>e=.returned (.pointer (some ⟨w.heap.size+2,0,none⟩))/\aI w' (w.heap.size+2) (w.heap.size+1) (w.heap.size+3) aG aG aG kind a fields c d fold (pa0 a)/\Below w.heap.size w w':=by
 have HN:=lH (ba a h0 h1);obtain⟨L1,hL1⟩:∃o,o=Obj.cells #[.int .i64 a,.int .i64 fields,.int .i64 c,.int .i64 d,.int .i64 fold] 24:=⟨_,rfl⟩;obtain⟨L2,hL2⟩:∃o,o=Obj.cells ((eI a).row (.slice none 0 0)) 136:=⟨_,rfl⟩;obtain⟨L3,hL3⟩:∃o,o=Obj.cells (dP (w.heap.size+1) aG aG kind a fields c d fold (pa0 a)) 114:=⟨_,rfl⟩;have s1:(w.alloc L1).heap.size=w.heap.size+1:=by simp
 have s2:((w.alloc L1).alloc L2).heap.size=w.heap.size+2:=by simp
 have s3:(((w.alloc L1).alloc L2).alloc L3).heap.size=w.heap.size+3:=by simp
 have kl:ac ((w.alloc L1).alloc L2) (w.heap.size+1) ((eI a).row (.slice none 0 0)) 136:=by rw[hL2];exact ac.new' s1.symm
 have kl2:ac (((w.alloc L1).alloc L2).alloc L3) (w.heap.size+1) ((eI a).row (.slice none 0 0)) 136:=kl.alloc L3;have kp:ac (((w.alloc L1).alloc L2).alloc L3) (w.heap.size+2) (dP (w.heap.size+1) aG aG kind a fields c d fold (pa0 a)) 114:=by rw[hL3];exact ac.new' s2.symm
 have hb:Below w.heap.size w (((w.alloc L1).alloc L2).alloc L3):=(((tU _ _).alloc (nR _) _).alloc (by simp) _).alloc (by simp;omega) _
 have HP:Hid (aI (((w.alloc L1).alloc L2).alloc L3) (w.heap.size+2) (w.heap.size+1) (w.heap.size+3) aG aG aG kind a fields c d fold (pa0 a)):=
  ⟨kp,⟨kl2,cm.start _ _,by omega,by omega⟩,ao.start _ _,aj.start _ _,fun _=>⟨rfl,rfl⟩,by omega,by omega,by omega,by omega,fun k hk=>by cases hk⟩
 have HB:=lH hb;subst hL1 hL2 hL3;clear s1 s2 s3 kl kl2 kp hb;rcases hk with rfl|rfl
 all_goals
  go_enter Tryz.func42,Tryz.ntmps42
  go_wp2_with (go_at_call 68;refine(HN.out _).mono ?_;rintro e1 w1 ⟨rfl,h1⟩;subst h1)
  go_ret;exact⟨by simp,HP.out,HB.out⟩
theorem tD {a:Int} (h0:0<=a) (h1:a<=65536):gK (pa0 a):=⟨⟨h0,Int.le_refl 0,by show a+0<=65536;omega,by show ((0:Nat):Int)<=0;decide⟩,by show ((0:Nat):Int)+du []+0<=0;decide,rfl,fun _ _=>rfl,tX _⟩
theorem jG {w:World} {b g B:Nat} {vl va vf:Value} {kind a fields c d fold:Int} {p:cY} (h:aI w b g B vl va vf kind a fields c d fold p):
 Calls Tryz.prog 48 #[.pointer (some ⟨b,0,none⟩)] w fun e w'=>e=.returned (.bool (p.fin&&p.e==0))/\w=w':=by
 have a8:w.cell? ⟨b,8,none⟩=some (.bool p.fin):=h.k.cell 8;have a15:w.cell? ⟨b,15,none⟩=some (.int .i64 p.e):=h.k.cell 15;clear h;obtain⟨E,hE⟩:∃E,E=(p.e==0):=⟨_,rfl⟩;rw[<-hE];cases hf:p.fin<;>cases E
 all_goals
  rw[hf] at a8;have e1:=hE.symm;clear hE;go_enter Tryz.func48,Tryz.ntmps48
  go_wp2_with fail
  go_ret;exact⟨rfl,rfl⟩
end Go.Proofs.YthjbodpeckebiaaGreatDoor
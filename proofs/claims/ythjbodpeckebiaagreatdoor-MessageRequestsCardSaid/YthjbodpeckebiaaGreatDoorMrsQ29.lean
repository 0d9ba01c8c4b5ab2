/- Texts packed for one claim, 29 of 52: BdI BdJ BdK BdO BdL BdM RbP BdN. -/
import Derived.Test.YthjbodpeckebiaaGreatDoorMrsQ21
import Derived.Test.YthjbodpeckebiaaGreatDoorMrsQ28
import Derived.Test.YthjbodpeckebiaaGreatDoorMrsQ20
import Derived.Test.YthjbodpeckebiaaGreatDoorMrsQ13
import Derived.Deep.Cut
set_option maxRecDepth 100000
set_option maxHeartbeats 16000000
set_option linter.unusedSimpArgs false
set_option linter.unusedVariables false
-- BdI
namespace Go.Proofs.YthjbodpeckebiaaGreatDoor
open Go.RowKit
theorem kh:∀(l:List UInt8) (s:gk),s.e=0->s.whole=false->(ac l s).1.e≠0->(ac l s).1.whole=false
 | [],s,he,_,h=>absurd he h
 | c :: r,s,he,hw,h=>by
   rw[ac,if_neg (by rw[hw,he];simp)] at h ⊢;by_cases h2:(bz s c).2=0
   ·rw[if_pos h2] at h ⊢
    cases hw2:(bz s c).1.whole with
    | true=>exact absurd (FH (fun q:gk×Nat=>q.1.e) (dV r { (bz s c).1 with e:=0 } (Or.inl hw2))) h
    | false=>exact kh r _ rfl hw2 h
   ·rw[if_neg h2]
    show (bz s c).1.whole=false;unfold bz at h2 ⊢;split
    ·exact hw
    ·rename_i h3
     rw[if_neg h3] at h2;split
     ·exact hw
     ·rename_i h4
      rw[if_neg h4] at h2;split<;>rename_i h5
      ·rw[if_pos h5] at h2;exact absurd rfl h2
      ·rw[if_neg h5] at h2
       split<;>rename_i h6
       ·rw[if_pos h6] at h2;exact absurd rfl h2
       ·rw[if_neg h6] at h2;exact absurd rfl h2
theorem an.ofLn {w:World} {D n0:Nat} {m:Lm} {s:ar} {V:cU} (h:an w D n0 m s V) (hl:s.lined=true):ey w (vT V.gl V.vl) [136,5]:=fun j hj=>by
 rcases hj with rfl|hj
 ·exact⟨_,_,GG,(h.r.l hl).l.b⟩
 ·obtain⟨_,cs,hb⟩:=aI (h.r.l hl).l.o j hj
  exact⟨_,_,List.mem_cons_of_mem _ GG,hb⟩
theorem gy.lined {w w1:World} {D:Nat} {md:Md} {v:Value} (h:gy w D md v) (hm:md.lined=true):gy w1 D md v:=by
 cases md<;>first|exact h|cases hm
theorem an.fed {w w1:World} {D n0:Nat} {m:Lm} {s:ar} {V:cU} (h:an w D n0 m s V) (hl:s.lined=true) {v':Value} {ln':gk} (hat:dm w1 V.gl (V.gl+1) v' ln') (t:aa (vT V.gl V.vl) w w1):an w1 D n0 m { s with ln:=ln' } { V with vl:=v' }:=by
 have hP:=h.ofLn hl;have hl':(s.opens&&s.md.lined)=true:=hl;rw[Fq] at hl';exact⟨h.k.touch t (hP.not h.k (by decide)),h.d,ab h.o t (hP.own h.o (by decide)),⟨ab h.r.a t (hP.own h.r.a (by decide)),ab h.r.t t (hP.own h.r.t (by decide)),fun e=>(h.r.n e).lined hl'.2,fun _=>⟨(h.r.l hl).p,(h.r.l hl).n,hat⟩,fun e=>absurd (show s.lined=false from e) (by rw[hl];decide),h.r.f⟩⟩
theorem aS.fed {w w1:World} {D:Nat} {V:cU} {v':Value} (t:aa (vT V.gl V.vl) w w1) (hv:v'.ownBlock=V.vl.ownBlock\/∀k,v'.ownBlock=some k->w.heap.size<=k):aS w w1 D V { V with vl:=v' }:=by
 refine⟨t.mono (fun j _ e=>?_),fun j hj e=>?_⟩
 ·rcases e with e|e
  ·exact Or.inr (Or.inr (Or.inr (Or.inl e)))
  ·exact Or.inr (Or.inr (Or.inr (Or.inr e)))
 ·rcases e with e|e|e|e|e
  ·exact Or.inl e
  ·exact Or.inr (Or.inl e)
  ·exact Or.inr (Or.inr (Or.inl e))
  ·exact Or.inr (Or.inr (Or.inr (Or.inl e)))
  ·rcases hv with hv|hv
   ·exact Or.inr (Or.inr (Or.inr (Or.inr (hv▸e))))
   ·have:=hv j e
    omega
theorem dm.shut {w w1:World} {D n0:Nat} {m:Lm} {s:ar} {V V1:cU} (h:an w D n0 m s V) (g:aS w w1 D (V.shut D) V1) {gl B:Nat} {v:Value} {ln:gk} (hat:dm w gl B v ln):dm w1 gl B v ln:=by
 have hP:ey w (mH D (V.shut D)) [117,80,9]:=fun j hj=>by
  rcases hj with rfl|hj|hj|hj|hj
  ·exact⟨_,_,by decide,h.k⟩
  ·obtain⟨_,cs,hb⟩:=aI h.o j hj
   exact⟨_,_,by decide,hb⟩
  ·obtain⟨_,cs,hb⟩:=aI h.r.a j hj
   exact⟨_,_,by decide,hb⟩
  ·exact⟨_,_,by decide,(show j=D from hj)▸h.k⟩
  ·cases hj
 exact hat.touch g.t (hP.not hat.b (by decide)) (hP.own hat.o (by decide))
theorem nF {w:World} {D n0:Nat} {m:Lm} {s:ar} {V:cU} (h:an w D n0 m s V) (hl:s.out.length<=1000000) (hld:s.lined=true) (hok:jC s.ln) (x:ByteArray) (hx:x.size<=1000000):
 Calls Tryz.prog 94 #[.pointer (some ⟨D,0,none⟩),.string x] w fun e w'=>e=.returned (.tuple #[.int .i64 (s.whole x.data.toList).2.1,.bool (s.whole x.data.toList).2.2])/\∃V',an w' D n0 m (s.whole x.data.toList).1 V'/\aS w w' D V V':=by
 obtain⟨R,hR⟩:∃R,R=ac x.data.toList s.ln:=⟨_,rfl⟩;have y8:w.cell? ⟨D,8,none⟩=some (.pointer (some ⟨V.gl,0,none⟩)):=by rw[<-(h.r.l hld).p];exact h.k.cell 8
 have HF:=lH (qh (h.r.l hld).l hok x hx);rw[<-hR] at HF;have hw:s.whole x.data.toList=(if R.1.e=0 then { s with ln:=R.1 } else ({ s with ln:=R.1 }:ar).wrong R.1.e,R.2,R.1.whole):=by rw[hR];rfl
 rw[hw];have H:=lH h;have HL:=lH hl;have HD:=lH hld;have HP:=lH ((h.r.l hld).p);clear h hl hld hok hw hR;by_cases hz:R.1.e=0
 ·rw[if_pos hz]
  rw[hz] at HF;go_enter Tryz.func94,Tryz.ntmps94
  go_wp2_with (first|(go_at_call 69;refine HF.out.mono ?_;rintro e1 w1 ⟨rfl,v1,h1,t1,b1⟩;have A1:=lH (H.out.fed HD.out h1 t1);have G1:=lH (aS.fed (V:=V) (D:=D) t1 b1);have y8b:w1.cell? ⟨D,8,none⟩=some (.pointer (some ⟨V.gl,0,none⟩)):=(A1.out.k.cell 8).trans (FH some HP.out);have H1:=lH h1;clear h1 t1 b1)|(go_at_call 70;refine(iu H1.out).mono ?_;rintro e2 w2 ⟨rfl,rfl⟩))
  go_ret2
  exact⟨rfl,_,A1.out,G1.out⟩
 ·rw[if_neg hz]
  have hz2:(R.1.e != 0)=true:=by rw[FP];exact hz
  have hz3:(R.1.e==0)=false:=by rw[EJ];exact hz
  go_enter Tryz.func94,Tryz.ntmps94
  go_wp2_with (first|(go_at_call 69;refine HF.out.mono ?_;rintro e1 w1 ⟨rfl,v1,h1,t1,b1⟩;have A1:=lH (H.out.fed HD.out h1 t1);have G1:=lH (aS.fed (V:=V) (D:=D) t1 b1);have H1:=lH h1;clear h1 t1 b1)|(go_at_call 67;refine(mj A1.out HL.out _ hz).mono ?_;rintro e2 w2 ⟨rfl,vo,h2,g2⟩;have y8b:w2.cell? ⟨D,8,none⟩=some (.pointer (some ⟨V.gl,0,none⟩)):=(h2.k.cell 8).trans (FH some HP.out);have H2:=lH (dm.shut A1.out g2 H1.out);have A2:=lH h2;have G2:=lH g2.unshut;clear h2 g2)|(go_at_call 70;refine(iu H2.out).mono ?_;rintro e3 w3 ⟨rfl,rfl⟩))
  go_ret2
  exact⟨rfl,_,A2.out,G1.out.trans G2.out⟩
end Go.Proofs.YthjbodpeckebiaaGreatDoor
-- BdJ
namespace Go.Proofs.YthjbodpeckebiaaGreatDoor
open Go.RowKit
theorem fj (l:List UInt8):0<=(ak l).1/\(ak l).1<=2147483647/\0<=(ak l).2/\(ak l).2<=5:=by
 have hn:∀l,0<=(am l 16 2147483647).1/\(am l 16 2147483647).1<=2147483647/\0<=(am l 16 2147483647).2/\(am l 16 2147483647).2<=5:=fun l=>by
  unfold am;split
  ·decide
  ·split
   ·decide
   ·split
    ·rename_i h1 h2 h3
     exact⟨na (by decide) l (by simpa using h2),h3,Gv 0,(by decide:(0:Int)<=5)⟩
    ·decide
 rw[lP];split
 ·decide
 ·split
  ·decide
  ·exact hn _
def ar.read (s:ar) (L:gk):ar:={ s with ln:={ L with line:=[],whole:=false } }
theorem ks {m:Lm} {s:ar} {x:List UInt8} (hm:s.md=.size):au m s x=(if (s.whole x).2.2=false then ((s.whole x).1,(s.whole x).2.1)
 else (if (ak (s.whole x).1.ln.line).2≠0 then ((s.whole x).1.read (s.whole x).1.ln).wrong (ak (s.whole x).1.ln.line).2 else if (ak (s.whole x).1.ln.line).1=0 then { (s.whole x).1.read (s.whole x).1.ln with ln:=dC m.head,md:=.trailer } else { (((s.whole x).1.read (s.whole x).1.ln).put ⟨2,(ak (s.whole x).1.ln.line).1,⟨#[]⟩⟩) with left:=(ak (s.whole x).1.ln.line).1,md:=.data },(s.whole x).2.1)):=by
 unfold au;rw[hm];rfl
theorem g7 {s:ar} {x:List UInt8} (he:s.ln.e=0) (hw:s.ln.whole=false) (h:(s.whole x).2.2=true):(s.whole x).1={ s with ln:=(ac x s.ln).1 }/\(s.whole x).1.ln.whole=true:=by
 have h1:(ac x s.ln).1.whole=true:=h
 have h2:(ac x s.ln).1.e=0:=by
  by_cases h3:(ac x s.ln).1.e=0
  ·exact h3
  ·have:=kh x s.ln he hw h3
   rw[h1] at this;cases this
 have h4:(s.whole x).1={ s with ln:=(ac x s.ln).1 }:=by
  unfold ar.whole;simp only;rw[if_pos h2]
 exact⟨h4,by rw[h4];exact h1⟩
theorem dG {w w1:World} {g:Nat} {v:Value} (t:aa (fun j=>j=g) w w1):aa (vT g v) w w1:=t.mono (fun _ _ e=>Or.inl e)
theorem xg {w:World} {D n0:Nat} {m:Lm} {s:ar} {V:cU} (h:an w D n0 m s V) {c:Int} (_ho:s.opens=true):
 an ((w.setCell ⟨D,7,none⟩ (.int .i64 c)).setCell ⟨D,5,none⟩ (.func (.func 97) #[.pointer (some ⟨D,0,none⟩)] #[])) D n0 m { s with left:=c,md:=.data } { V.shut D with vn:=.func (.func 97) #[.pointer (some ⟨D,0,none⟩)] #[] }/\
 aS w ((w.setCell ⟨D,7,none⟩ (.int .i64 c)).setCell ⟨D,5,none⟩ (.func (.func 97) #[.pointer (some ⟨D,0,none⟩)] #[])) D V { V.shut D with vn:=.func (.func 97) #[.pointer (some ⟨D,0,none⟩)] #[] }:=by
 have T:=(bY w D 7 (.int .i64 c)).trans (bY (w.setCell ⟨D,7,none⟩ (.int .i64 c)) D 5 (.func (.func 97) #[.pointer (some ⟨D,0,none⟩)] #[]));refine⟨⟨(h.k.set 7 _).set 5 _,h.d,ab h.o T (fun k hk e=>by obtain⟨_,cs,hb⟩:=aI h.o k hk;exact h.k.ne hb (by decide) e.symm),⟨ab h.r.a T (h.ofD.own h.r.a (by decide)),ab h.r.t T (h.ofD.own h.r.t (by decide)),fun _=>rfl,fun e=>?_,fun _=>⟨rfl,rfl⟩,⟨_,_,_,rfl⟩⟩⟩,⟨T.mono (fun _ _ e=>Or.inl e),fun _ _ e=>(show mH D (V.shut D) _ from e).shut⟩⟩;simp[ar.lined,Md.lined] at e
theorem yI {w:World} {D n0:Nat} {m:Lm} {s:ar} {V:cU} (h:an w D n0 m s V) (hl:s.out.length<=999998) (ho:s.opens=true) (hm:s.md=.size) (hok:jC s.ln) (he:s.ln.e=0) (hw:s.ln.whole=false) (hh0:0<=m.head) (hh1:m.head<=65536) (x:ByteArray) (hx:x.size<=1000000):
 Calls Tryz.prog 78 #[.pointer (some ⟨D,0,none⟩),.string x] w fun e w'=>e=.returned (.int .i64 (au m s x.data.toList).2)/\∃V',an w' D n0 m (au m s x.data.toList).1 V'/\aS w w' D V V':=by
 have hld:s.lined=true:=by unfold ar.lined;rw[ho,hm];rfl
 have HC:=lH (nF h (by omega) hld hok x hx);rw[ks hm];cases hwh:(s.whole x.data.toList).2.2 with
 | false=>
   rw[if_pos rfl];rw[hwh] at HC;clear h hl ho hm hok he hw hld;go_enter Tryz.func78,Tryz.ntmps78
   go_wp2_with (go_at_call 94;refine HC.out.mono ?_;rintro e1 w1 ⟨rfl,V1,h1,g1⟩;have H1:=lH h1;have G1:=lH g1;clear h1 g1)
   go_ret;exact⟨rfl,V1,H1.out,G1.out⟩
 | true=>
   rw[if_neg (by decide)];rw[hwh] at HC;obtain⟨hq1,hq2⟩:=g7 (x:=x.data.toList) he hw hwh;have hLok:jC (s.whole x.data.toList).1.ln:=by rw[hq1];exact gW _ _ hok
   have hso:(s.whole x.data.toList).1.out=s.out:=by rw[hq1]
   have hso2:(s.whole x.data.toList).1.opens=true:=by rw[hq1];exact ho
   have hsl:(s.whole x.data.toList).1.lined=true:=by rw[hq1];exact hld
   generalize (s.whole x.data.toList).1=s1 at HC hq2 hLok hso hso2 hsl ⊢;generalize (s.whole x.data.toList).2.1=n at HC ⊢
   have hll:(aw s1.ln.line).size<=999999:=by
    show s1.ln.line.toArray.size<=_;have:=hLok.t;have:=hLok.m;have:=hLok.l0;simp;omega
   have HP:=lH (fun W=>uI (aw s1.ln.line) hll W);have hst:(aw s1.ln.line).data.toList=s1.ln.line:=rfl;rw[hst] at HP;have HR:=lH (fj s1.ln.line);obtain⟨c1,c2,hc⟩:∃c1 c2,ak s1.ln.line=(c1,c2):=⟨_,_,rfl⟩;rw[hc] at HP HR ⊢;simp only at HP HR ⊢;have HO:=lH hso2;have HS:=lH hsl;have HQ:=lH hq2;have HL:=lH (show s1.out.length<=999998 by rw[hso];exact hl);clear h hl ho hm hok he hw hld hwh hq1 hq2 hLok hso hso2 hsl hll hst hc;by_cases h2:c2=0
   ·rw[if_neg (fun h=>h h2)]
    subst h2;by_cases h3:c1=0
    ·rw[if_pos h3]
     subst h3;have hmf:∀(fn:Fn) (first cap:Array Value) (W:World),(Instr.makeFunc fn first cap).run Tryz.prog W=.ok (.func fn first cap) W:=fun _ _ _ _=>rfl;go_enter Tryz.func78,Tryz.ntmps78
     go_wp2_with (first|(go_at_call 94;refine HC.out.mono ?_;rintro e1 w1 ⟨rfl,V1,h1,g1⟩;have y8:w1.cell? ⟨D,8,none⟩=some (.pointer (some ⟨V1.gl,0,none⟩)):=(h1.k.cell 8).trans (FH some (h1.r.l HS.out).p);have H1:=lH h1;have G1:=lH g1;clear h1 g1)|(go_at_call 72;refine(fu (H1.out.r.l HS.out).l HQ.out).mono ?_;rintro e2 w2 ⟨rfl,v2,h2,t2,b2⟩;have A2:=lH (H1.out.fed HS.out h2 (dG t2));have G2:=lH (aS.fed (V:=V1) (D:=D) (dG t2) (Or.inl b2));clear h2 t2 b2)|(go_at_call 95;refine(HP.out _).mono ?_;rintro e3 w3 ⟨rfl,b3⟩;have A3:=lH (A2.out.call b3);have G3:=lH ((G1.out.trans G2.out).trans (aS.of_below b3));have y0:w3.cell? ⟨D,0,none⟩=some (.int .i64 m.head):=A3.out.k.cell 0;clear b3)|(go_at_call 68;refine(cR m.head hh0 hh1 _).mono ?_;rintro e4 w4 ⟨rfl,h4⟩;have ka:af w4 D (fg m _ _) 117:=h4▸A3.out.k.alloc _;obtain⟨z8,z5⟩:=wF ka 8 5;have y8:w4.cell? ⟨D,8,none⟩=some V1.vp:=ka.cell 8;have y5:w4.cell? ⟨D,5,none⟩=some V1.vn:=ka.cell 5;have HW:=lH h4;clear h4 ka))
     go_ret;have hg:af w4 w3.heap.size ((dC m.head).row (.slice none 0 0)) 136:=HW.out▸af.new w3 _ _;have B1:Below w3.heap.size w3 w4:=HW.out▸(EK _ _).alloc (nR _) _;have A4:=A3.out.call B1;exact⟨rfl,_,begun A4 HO.out (Or.inr ⟨rfl,rfl⟩) hg A3.out.size,G3.out.trans ⟨aB (aa.of_below B1) ((An w4 D _ _).mono (Q:=mH D _) (fun _ _ e=>Or.inl e)) (fun _ _ h=>h),fun j hj e=>begF hj e⟩⟩
    ·rw[if_neg h3]
     have h4:(c1==0)=false:=by rw[EJ];exact h3
     have hmf:∀(fn:Fn) (first cap:Array Value) (W:World),(Instr.makeFunc fn first cap).run Tryz.prog W=.ok (.func fn first cap) W:=fun _ _ _ _=>rfl;go_enter Tryz.func78,Tryz.ntmps78
     go_wp2_with (first|(go_at_call 94;refine HC.out.mono ?_;rintro e1 w1 ⟨rfl,V1,h1,g1⟩;have y8:w1.cell? ⟨D,8,none⟩=some (.pointer (some ⟨V1.gl,0,none⟩)):=(h1.k.cell 8).trans (FH some (h1.r.l HS.out).p);have H1:=lH h1;have G1:=lH g1;clear h1 g1)|(go_at_call 72;refine(fu (H1.out.r.l HS.out).l HQ.out).mono ?_;rintro e2 w2 ⟨rfl,v2,h2,t2,b2⟩;have A2:=lH (H1.out.fed HS.out h2 (dG t2));have G2:=lH (aS.fed (V:=V1) (D:=D) (dG t2) (Or.inl b2));clear h2 t2 b2)|(go_at_call 95;refine(HP.out _).mono ?_;rintro e3 w3 ⟨rfl,b3⟩;have A3:=lH (A2.out.call b3);have G3:=lH ((G1.out.trans G2.out).trans (aS.of_below b3));clear b3)|(go_at_call 80;refine(dc A3.out (by have:=HL.out;exact nT this (by decide)) ⟨2,c1,⟨#[]⟩⟩).mono ?_;rintro e4 w4 ⟨rfl,vo,h4,g4⟩;obtain⟨z7,z5⟩:=wF h4.k 7 5;have y7:w4.cell? ⟨D,7,none⟩=some (.int .i64 s1.left):=h4.k.cell 7;have y5:w4.cell? ⟨D,5,none⟩=some V1.vn:=h4.k.cell 5;have H4:=lH h4;have G4:=lH g4;clear h4 g4))
     go_ret;exact⟨rfl,_,(xg H4.out HO.out).1,(G3.out.trans G4.out).trans (xg H4.out HO.out).2⟩
   ·rw[if_pos h2]
    have h4:(c2 != 0)=true:=by rw[FP];exact h2
    have h5:(c2==0)=false:=by rw[EJ];exact h2
    go_enter Tryz.func78,Tryz.ntmps78
    go_wp2_with (first|(go_at_call 94;refine HC.out.mono ?_;rintro e1 w1 ⟨rfl,V1,h1,g1⟩;have y8:w1.cell? ⟨D,8,none⟩=some (.pointer (some ⟨V1.gl,0,none⟩)):=(h1.k.cell 8).trans (FH some (h1.r.l HS.out).p);have H1:=lH h1;have G1:=lH g1;clear h1 g1)|(go_at_call 72;refine(fu (H1.out.r.l HS.out).l HQ.out).mono ?_;rintro e2 w2 ⟨rfl,v2,h2,t2,b2⟩;have A2:=lH (H1.out.fed HS.out h2 (dG t2));have G2:=lH (aS.fed (V:=V1) (D:=D) (dG t2) (Or.inl b2));clear h2 t2 b2)|(go_at_call 95;refine(HP.out _).mono ?_;rintro e3 w3 ⟨rfl,b3⟩;have A3:=lH (A2.out.call b3);have G3:=lH ((G1.out.trans G2.out).trans (aS.of_below b3));clear b3)|(go_at_call 67;refine(eF A3.out (by have:=HL.out;exact nT this (by decide)) c2 h2).mono ?_;rintro e4 w4 ⟨rfl,vo,h4,g4⟩;have H4:=lH h4;have G4:=lH g4;clear h4 g4))
    go_ret;exact⟨rfl,_,H4.out,G3.out.trans G4.out⟩
end Go.Proofs.YthjbodpeckebiaaGreatDoor
-- BdK
namespace Go.Proofs.YthjbodpeckebiaaGreatDoor
open Go.RowKit
theorem gq {m:Lm} {s:ar} {x:List UInt8} (hm:s.md=.trailer):au m s x=(if (s.whole x).2.2=false then ((s.whole x).1,(s.whole x).2.1)
 else (if (s.whole x).1.ln.line≠[] then { (s.whole x).1.read (s.whole x).1.ln with all:=(s.whole x).1.all++[aw (s.whole x).1.ln.line] }
  else if m.fields<((s.whole x).1.all.length:Int) then ((s.whole x).1.read (s.whole x).1.ln).wrong 4 else if (bq m.fold (s.whole x).1.all).2≠0 then ((s.whole x).1.read (s.whole x).1.ln).wrong (bq m.fold (s.whole x).1.all).2 else ({ (s.whole x).1.read (s.whole x).1.ln with tr:=(bq m.fold (s.whole x).1.all).1 }:ar).ends,(s.whole x).2.1)):=by
 unfold au;rw[hm];rfl
theorem bI {w w1:World} {n0:Nat} {u:Value} (h:w.cell? ⟨0,0,none⟩=some u) (h0:0<n0) (hb:Below n0 w w1):w1.cell? ⟨0,0,none⟩=some u:=(World.cell?_of_block (hb.block 0 h0)).trans h
theorem D8 {w w1:World} {D n0:Nat} {m:Lm} {s:ar} {V:cU} (h:an w D n0 m s V) {v':Value} {l':List ByteArray} (o:ap w1 n0 v' l') (t:aa (fun j=>V.va.ownBlock=some j) w w1) (hv:V.va.ownBlock=v'.ownBlock\/∀k,v'.ownBlock=some k->w.heap.size<=k):
 an (w1.setCell ⟨D,9,none⟩ v') D n0 m { s with all:=l' } { V with va:=v' }/\aS w (w1.setCell ⟨D,9,none⟩ v') D V { V with va:=v' }:=by
 have hP:ey w (fun j=>V.va.ownBlock=some j) [9]:=fun j hj=>by
  obtain⟨_,cs,hb⟩:=aI h.r.a j hj;exact⟨_,_,GG,hb⟩
 have k1:=h.k.touch t (hP.not h.k (by decide));have T2:=bY w1 D 9 v';have hD:ey w1 (fun j=>j=D) [117]:=fun j e=>⟨_,_,GG,e▸k1⟩;have o1:cB w1 n0 V.vo s.out:=ab h.o t (hP.own h.o (by decide));have t1:ao w1 n0 V.vt s.tr:=ab h.r.t t (hP.own h.r.t (by decide));refine⟨⟨k1.set 9 _,h.d,ab o1 T2 (hD.own o1 (by decide)),⟨ab o T2 (hD.own o (by decide)),ab t1 T2 (hD.own t1 (by decide)),fun e=>((h.r.n e).touch t hP (by decide) (by decide) (by decide)).touch T2 hD (by decide) (by decide) (by decide),fun e=>?_,h.r.u,h.r.f⟩⟩,⟨aB (t.mono (Q:=mH D V) (fun _ _ e=>Or.inr (Or.inr (Or.inl e)))) (T2.mono (Q:=mH D V) (fun _ _ e=>Or.inl e)) (fun _ _ h=>h),fun j hj e=>?_⟩⟩
 ·have b:=((h.r.l e).touch t hP (by decide) (by decide)).touch T2 hD (by decide) (by decide)
  exact⟨b.p,b.n,b.l⟩
 ·rcases e with e|e|e|e|e
  ·exact Or.inl e
  ·exact Or.inr (Or.inl e)
  ·rcases hv with hv|hv
   ·exact Or.inr (Or.inr (Or.inl (hv.trans e)))
   ·have:=hv j e
    omega
  ·exact Or.inr (Or.inr (Or.inr (Or.inl e)))
  ·exact Or.inr (Or.inr (Or.inr (Or.inr e)))
end Go.Proofs.YthjbodpeckebiaaGreatDoor
-- BdO
namespace Go.Proofs.YthjbodpeckebiaaGreatDoor
open Go.RowKit
structure da (m:Lm) (s:ar):Prop where
 oe:s.over=true->s.e=0
 left:s.opens=true->0<=s.left/\s.left<=9223372036854775807
 pos:s.opens=true->(s.md=.sized\/s.md=.data)->0<s.left
 nn:s.opens=true->s.md≠.nothing
 lim:s.opens=true->0<=m.line/\m.line<=65536/\0<=m.head/\m.head<=65536
 ln:s.lined=true->jC s.ln/\s.ln.e=0/\s.ln.whole=false
 tt:s.lined=true->(s.ln.line.length+dX s.all+s.all.length:Int)<=s.ln.spent
 all:s.opens=true->s.md≠.trailer->s.all=[]
 tr:s.tr.length<=65536
theorem bA {s:ar} (h:s.lined=true):s.opens=true/\s.md.lined=true:=by
 have h':(s.opens&&s.md.lined)=true:=h;rwa [Fq] at h'
theorem da.shut {m:Lm} {s:ar} (h:s.opens=false) (oe:s.over=true->s.e=0) (tr:s.tr.length<=65536):da m s:=by
 have n:∀{p:Prop},s.opens=true->p:=fun e=>by rw[h] at e;cases e
 exact⟨oe,n,n,n,n,fun e=>n (bA e).1,fun e=>n (bA e).1,n,tr⟩
theorem gV {s:ar}:s.opens=true↔s.over=false/\s.e=0:=by
 unfold ar.opens;simp
theorem dO (s:ar) {e:Int} (he:e≠0):(s.wrong e).opens=false:=by
 unfold ar.wrong ar.put ar.opens;simp[he]
theorem da.wrong {m:Lm} {s:ar} (ho:s.over=false) (tr:s.tr.length<=65536) {e:Int} (he:e≠0):da m (s.wrong e):=
 da.shut (dO s he) (fun h=>by have h':s.over=true:=h;rw[ho] at h';cases h') tr
theorem da.ends {m:Lm} {s:ar} (he:s.e=0) (tr:s.tr.length<=65536):da m s.ends:=da.shut rfl (fun _=>he) tr
theorem da.all' {m:Lm} {s:ar} (h:da m s) (hl:s.lined=true):s.all.length<=65536/\dX s.all<=65536:=by
 have:=h.tt hl;have:=(h.ln hl).1.m;have:=(h.ln hl).1.l0;omega
structure Av (m:Lm) (s:ar) (x:List UInt8) (r:ar×Nat):Prop where
 ok:da m r.1
 out:r.1.out.length<=s.out.length+2
 le:r.2<=x.length
 go:r.2=0->r.1.opens=false
theorem vb {n:Int} (h0:0<=n) (h1:n<=65536):jC (dC n):=⟨h0,Gv 0,by show n+0<=65536;omega,by show ((0:Nat):Int)<=0;decide⟩
theorem rf {m:Lm} {s:ar} (h:da m s) (ho:s.opens=true) (hp:0<s.left) {x:List UInt8} (hx:x≠[]):0<=(s.some x).1.left/\(s.some x).1.left<=s.left/\(s.some x).1.out.length=s.out.length+1/\(s.some x).2<=x.length/\(s.some x).2≠0/\(s.some x).1.over=false/\(s.some x).1.e=0/\(s.some x).1.tr=s.tr/\(s.some x).1.md=s.md/\(s.some x).1.all=s.all:=by
 have hl:0<x.length:=List.length_pos_iff.2 hx;obtain⟨h1,h2⟩:=gV.1 ho;have h3:=(h.left ho).1;refine⟨(qD h3 x).1,(qD h3 x).2,oP s x,?_,?_,h1,h2,rfl,rfl,rfl⟩
 ·show (min (x.length:Int) s.left).toNat<=x.length
  omega
 ·show (min (x.length:Int) s.left).toNat≠0
  omega
theorem nD {s:ar} (ho:s.opens=true) (hm:s.md=.size):s.lined=true:=by unfold ar.lined;rw[ho,hm];rfl
theorem gx {s:ar} (ho:s.opens=true) (hm:s.md=.trailer):s.lined=true:=by unfold ar.lined;rw[ho,hm];rfl
theorem oH {m:Lm} {s:ar} (h:da m s) (hl:s.lined=true) {x:List UInt8} (hx:x≠[]) (hw:(s.whole x).2.2=false):Av m s x ((s.whole x).1,(s.whole x).2.1):=by
 obtain⟨hok,he,hnw⟩:=h.ln hl;obtain⟨ho,hmd⟩:=bA hl;obtain⟨h1,h2⟩:=gV.1 ho;have hw':(ac x s.ln).1.whole=false:=hw;have hle:=eE x s.ln;by_cases h3:(ac x s.ln).1.e=0
 ·have e1:(s.whole x).1={ s with ln:=(ac x s.ln).1 }:=by
   unfold ar.whole;simp only;rw[if_pos h3]
  rw[e1];have hd:=kB x s.ln;rw[hw',hnw] at hd;simp only[FX,false_and,if_false] at hd;have ht:=h.tt hl;refine⟨⟨h.oe,h.left,h.pos,h.nn,h.lim,fun _=>⟨gW _ _ hok,h3,hw'⟩,fun _=>?_,h.all,h.tr⟩,Fj _ _,hle,fun h0=>?_⟩
  ·show ((ac x s.ln).1.line.length+dX s.all+s.all.length:Int)<=(ac x s.ln).1.spent
   omega
  ·exact absurd h3 (fi hx hnw he h0).1
 ·have e1:(s.whole x).1=({ s with ln:=(ac x s.ln).1 }:ar).wrong (ac x s.ln).1.e:=by
   unfold ar.whole;simp only;rw[if_neg h3]
  rw[e1];refine⟨da.wrong (by exact h1) (by exact h.tr) h3,?_,hle,fun _=>dO _ h3⟩;show (s.out++[_]).length<=_;rw[EY];exact Nat.add_le_add_left (FV 1) _
theorem ox {l:List UInt8} (h:(ak l).1≠0):0<(ak l).1:=by
 have:=(fj l).1;omega
theorem sM {m:Lm} {s:ar} (h:da m s) (ho:s.opens=true) {x:List UInt8} (hx:x≠[]):Av m s x (au m s x):=by
 have hl:0<x.length:=List.length_pos_iff.2 hx;obtain⟨h1,h2⟩:=gV.1 ho;have hput:∀(p:Pc),(s.out++[p]).length<=s.out.length+2:=fun p=>by rw[EY];exact Nat.add_le_add_left (FV 1) _
 cases hm:s.md with
 | nothing=>exact absurd hm (h.nn ho)
 | rest=>
   have e:au m s x=(s.rest x,x.length):=by unfold au;rw[hm]
   rw[e];exact⟨⟨h.oe,h.left,h.pos,h.nn,h.lim,h.ln,h.tt,h.all,h.tr⟩,hput _,nR _,fun h0=>absurd h0 (Nat.ne_of_gt hl)⟩
 | sized=>
   obtain⟨k1,k2,k3,k4,k5,k6,k7,k8,k9,k10⟩:=rf h ho (h.pos ho (Or.inl hm)) hx;have e:au m s x=(if (s.some x).1.left=0 then (s.some x).1.ends else (s.some x).1,(s.some x).2):=by unfold au;rw[hm]
   rw[e];have hr:(s.some x).1.tr.length<=65536:=by rw[k8];exact h.tr
   have hlf:=(h.left ho).2;refine⟨?_,?_,k4,fun h0=>absurd h0 k5⟩
   ·by_cases hz:(s.some x).1.left=0
    ·rw[if_pos hz];exact da.ends k7 hr
    ·rw[if_neg hz]
     have hmd:(s.some x).1.md=.sized:=k9.trans hm;have hnl:∀{p:Prop},(s.some x).1.lined=true->p:=fun e=>by have:=(bA e).2;rw[hmd] at this;cases this
     exact⟨fun e=>(by rw[k6] at e;cases e),fun _=>⟨k1,GN k2 hlf⟩,fun _ _=>Int.lt_iff_le_and_ne.2 ⟨k1,Ne.symm hz⟩,fun _ e=>(by rw[hmd] at e;cases e),fun _=>h.lim ho,hnl,hnl,fun _ _=>k10.trans (h.all ho (by rw[hm];exact fun e=>by cases e)),hr⟩
   ·by_cases hz:(s.some x).1.left=0
    ·rw[if_pos hz]
     show ((s.some x).1.out++[_]).length<=_;rw[EY,k3];exact nR _
    ·rw[if_neg hz,k3]
     exact FV _
 | data=>
   obtain⟨k1,k2,k3,k4,k5,k6,k7,k8,k9,k10⟩:=rf h ho (h.pos ho (Or.inr hm)) hx;have e:au m s x=(if (s.some x).1.left=0 then { (s.some x).1 with md:=.cr } else (s.some x).1,(s.some x).2):=by unfold au;rw[hm]
   rw[e];have hr:(s.some x).1.tr.length<=65536:=by rw[k8];exact h.tr
   have hlf:=(h.left ho).2;have hal:(s.some x).1.all=[]:=k10.trans (h.all ho (by rw[hm];exact fun e=>by cases e));refine⟨?_,?_,k4,fun h0=>absurd h0 k5⟩
   ·by_cases hz:(s.some x).1.left=0
    ·rw[if_pos hz]
     have hnl:∀{p:Prop},({ (s.some x).1 with md:=.cr }:ar).lined=true->p:=fun e=>by have:=(bA e).2;cases this
     exact⟨fun e=>(by have e':(s.some x).1.over=true:=e;rw[k6] at e';cases e'),fun _=>⟨k1,GN k2 hlf⟩,fun _ e=>(by rcases e with e|e<;>cases e),fun _ e=>(by cases e),fun _=>h.lim ho,hnl,hnl,fun _ _=>hal,hr⟩
    ·rw[if_neg hz]
     have hmd:(s.some x).1.md=.data:=k9.trans hm;have hnl:∀{p:Prop},(s.some x).1.lined=true->p:=fun e=>by have:=(bA e).2;rw[hmd] at this;cases this
     exact⟨fun e=>(by rw[k6] at e;cases e),fun _=>⟨k1,GN k2 hlf⟩,fun _ _=>Int.lt_iff_le_and_ne.2 ⟨k1,Ne.symm hz⟩,fun _ e=>(by rw[hmd] at e;cases e),fun _=>h.lim ho,hnl,hnl,fun _ _=>hal,hr⟩
   ·by_cases hz:(s.some x).1.left=0
    ·rw[if_pos hz]
     show (s.some x).1.out.length<=_;rw[k3];exact FV _
    ·rw[if_neg hz,k3]
     exact FV _
 | cr=>
   have e:au m s x=if x.head? = some 13 then ({ s with md:=.lf },1) else (s.wrong 3,0):=by unfold au;rw[hm]
   rw[e];by_cases hz:x.head? = some 13
   ·rw[if_pos hz]
    have hnl:∀{p:Prop},({ s with md:=.lf }:ar).lined=true->p:=fun e=>by have:=(bA e).2;cases this
    exact⟨⟨h.oe,h.left,fun _ e=>(by rcases e with e|e<;>cases e),fun _ e=>(by cases e),h.lim,hnl,hnl,fun _ _=>h.all ho (by rw[hm];exact fun e=>(by cases e)),h.tr⟩,Fj _ _,hl,fun h0=>by cases h0⟩
   ·rw[if_neg hz]
    exact⟨da.wrong h1 h.tr (by decide),hput _,EN _,fun _=>dO _ (by decide)⟩
 | lf=>
   have e:au m s x=if x.head? = some 10 then ({ s with ln:=dC m.line,md:=.size },1) else (s.wrong 3,0):=by unfold au;rw[hm]
   rw[e];have hal:s.all=[]:=h.all ho (by rw[hm];exact fun e=>by cases e);by_cases hz:x.head? = some 10
   ·rw[if_pos hz]
    refine⟨⟨h.oe,h.left,fun _ e=>(by rcases e with e|e<;>cases e),fun _ e=>(by cases e),h.lim,fun _=>⟨vb (h.lim ho).1 (h.lim ho).2.1,rfl,rfl⟩,fun _=>?_,fun _ _=>hal,h.tr⟩,Fj _ _,hl,fun h0=>by cases h0⟩;show (((dC m.line).line.length:Int)+dX s.all+s.all.length:Int)<=(dC m.line).spent;rw[hal];exact Gv 0
   ·rw[if_neg hz]
    exact⟨da.wrong h1 h.tr (by decide),hput _,EN _,fun _=>dO _ (by decide)⟩
 | size=>
   rw[ks hm];have hld:=nD ho hm;obtain⟨hok,he,hnw⟩:=h.ln hld;have hal:s.all=[]:=h.all ho (by rw[hm];exact fun e=>by cases e);cases hwh:(s.whole x).2.2 with
   | false=>rw[if_pos rfl];exact oH h hld hx hwh
   | true=>
     rw[if_neg (by decide)];obtain⟨hq1,hq2⟩:=g7 he hnw hwh;have hq3:(ac x s.ln).1.whole=true:=hwh;have hle:(s.whole x).2.1<=x.length:=eE x s.ln
     have hgo:(s.whole x).2.1≠0:=fun h0=>by
      have:=(fi hx hnw he h0).2;rw[hq3] at this;cases this
     rw[hq1];refine⟨?_,?_,hle,fun h0=>absurd h0 hgo⟩
     ·by_cases c2:(ak (ac x s.ln).1.line).2=0
      ·rw[if_neg (fun h=>h c2)]
       by_cases c1:(ak (ac x s.ln).1.line).1=0
       ·rw[if_pos c1]
        refine⟨h.oe,h.left,fun _ e=>(by rcases e with e|e<;>cases e),fun _ e=>(by cases e),h.lim,fun _=>⟨vb (h.lim ho).2.2.1 (h.lim ho).2.2.2,rfl,rfl⟩,fun _=>?_,fun _ _=>hal,h.tr⟩;show (((dC m.head).line.length:Int)+dX s.all+s.all.length:Int)<=(dC m.head).spent;rw[hal];exact Gv 0
       ·rw[if_neg c1]
        have hr:=fj (ac x s.ln).1.line;have hp:=ox c1;have hnl:∀{p:Prop} {t:ar},t.md=.data->t.lined=true->p:=fun hmd e=>by have:=(bA e).2;rw[hmd] at this;cases this
        exact⟨h.oe,fun _=>⟨hr.1,GN hr.2.1 (by decide)⟩,fun _ _=>hp,fun _ e=>(by cases e),h.lim,hnl rfl,hnl rfl,fun _ _=>hal,h.tr⟩
      ·rw[if_pos c2]
       exact da.wrong (by exact h1) (by exact h.tr) c2
     ·by_cases c2:(ak (ac x s.ln).1.line).2=0
      ·rw[if_neg (fun h=>h c2)]
       by_cases c1:(ak (ac x s.ln).1.line).1=0
       ·rw[if_pos c1]
        exact Fj _ _
       ·rw[if_neg c1]
        exact hput _
      ·rw[if_pos c2]
       exact hput _
 | trailer=>
   rw[gq hm];have hld:=gx ho hm;obtain⟨hok,he,hnw⟩:=h.ln hld;cases hwh:(s.whole x).2.2 with
   | false=>rw[if_pos rfl];exact oH h hld hx hwh
   | true=>
     rw[if_neg (by decide)];obtain⟨hq1,hq2⟩:=g7 he hnw hwh;have hq3:(ac x s.ln).1.whole=true:=hwh;have hle:(s.whole x).2.1<=x.length:=eE x s.ln
     have hgo:(s.whole x).2.1≠0:=fun h0=>by
      have:=(fi hx hnw he h0).2;rw[hq3] at this;cases this
     have hq4:(ac x s.ln).1.e=0:=by
      by_cases h3:(ac x s.ln).1.e=0
      ·exact h3
      ·have:=kh x s.ln he hnw h3
       rw[hq3] at this;cases this
     have hd:=kB x s.ln;rw[hq3,hnw] at hd;simp only[and_self,if_true] at hd;have ht:=h.tt hld;have hk:=gW x _ hok;rw[hq1];refine⟨?_,?_,hle,fun h0=>absurd h0 hgo⟩
     ·by_cases c0:(ac x s.ln).1.line=[]
      ·rw[if_neg (fun h=>h c0)]
       by_cases c1:m.fields<(s.all.length:Int)
       ·rw[if_pos c1]
        exact da.wrong (by exact h1) (by exact h.tr) (show (4:Int)≠0 by decide)
       ·rw[if_neg c1]
        by_cases c2:(bq m.fold s.all).2=0
        ·rw[if_neg (fun h=>h c2)]
         exact da.ends h2 (nT (sT _ _) (h.all' hld).1)
        ·rw[if_pos c2]
         exact da.wrong (by exact h1) (by exact h.tr) c2
      ·rw[if_pos c0]
       refine⟨h.oe,h.left,fun _ e=>(by rcases e with e|e<;>(have e':s.md=_:=e;rw[hm] at e';cases e')),h.nn,h.lim,fun _=>⟨⟨hk.l0,hk.s0,hk.m,by show ((0:Nat):Int)<=(ac x s.ln).1.spent;have:=hk.s0;simpa using this⟩,hq4,rfl⟩,fun _=>?_,fun _ e=>absurd hm e,h.tr⟩;show (((0:Nat):Int)+dX (s.all++[aw (ac x s.ln).1.line])+(s.all++[aw (ac x s.ln).1.line]).length:Int)<=(ac x s.ln).1.spent;rw[ic,dn,EY];simp only[GL];omega
     ·by_cases c0:(ac x s.ln).1.line=[]
      ·rw[if_neg (fun h=>h c0)]
       by_cases c1:m.fields<(s.all.length:Int)
       ·rw[if_pos c1]
        exact hput _
       ·rw[if_neg c1]
        by_cases c2:(bq m.fold s.all).2=0
        ·rw[if_neg (fun h=>h c2)]
         exact hput _
        ·rw[if_pos c2]
         exact hput _
      ·rw[if_pos c0]
       exact Fj _ _
theorem aO {m:Lm} {f:Nat} {s:ar} {x:List UInt8} (h:x=[]\/s.opens=false):cZ m f s x=(s,0):=by
 cases f with
 | zero=>rfl
 | succ f=>rw[cZ,if_pos h]
theorem ju {m:Lm} {f:Nat} {s:ar} {x:List UInt8} (h1:x≠[]) (h2:s.opens=true):cZ m (f+1) s x=((cZ m f (au m s x).1 (x.drop (au m s x).2)).1,(au m s x).2+(cZ m f (au m s x).1 (x.drop (au m s x).2)).2):=by
 rw[cZ,if_neg (by rintro (h|h);exact h1 h;rw[h2] at h;cases h)]
theorem kA (m:Lm):∀(f:Nat) (s:ar) (x:List UInt8),da m s->da m (cZ m f s x).1/\(cZ m f s x).2<=x.length
 | 0,s,x,h=>⟨h,EN _⟩
 | f+1,s,x,h=>by
   by_cases hx:x=[]
   ·rw[aO (Or.inl hx)];exact⟨h,EN _⟩
   ·cases ho:s.opens with
    | false=>rw[aO (Or.inr ho)];exact⟨h,EN _⟩
    | true=>
      rw[ju hx ho];have hs:=sM h ho hx;have ih:=kA m f (au m s x).1 (x.drop (au m s x).2) hs.ok;refine⟨ih.1,?_⟩;have i2:=ih.2;rw[ES] at i2;have:=hs.le;show (au m s x).2+_<=_;omega
theorem kW (m:Lm) (kind len:Int) (hb:len<=9223372036854775807):da m (aK m kind len):=by
 unfold aK;simp only;split
 ·exact da.wrong rfl (EN _) (by decide)
 ·rename_i h1
  have hlim:0<=m.line/\m.line<=65536/\0<=m.head/\m.head<=65536:=by omega
  have hlen:0<=len:=by omega
  split
  ·exact da.ends rfl (EN _)
  ·split
   ·split
    ·exact da.ends rfl (EN _)
    ·rename_i h2
     refine⟨fun _=>rfl,fun _=>⟨hlen,hb⟩,fun _ _=>?_,fun _ e=>(by cases e),fun _=>hlim,fun e=>(by have:=(bA e).2;cases this),fun e=>(by have:=(bA e).2;cases this),fun _ _=>rfl,EN _⟩;show 0<len;omega
   ·split
    ·exact⟨fun _=>rfl,fun _=>⟨hlen,hb⟩,fun _ e=>(by rcases e with e|e<;>cases e),fun _ e=>(by cases e),fun _=>hlim,fun _=>⟨vb hlim.1 hlim.2.1,rfl,rfl⟩,fun _=>Gv 0,fun _ _=>rfl,EN _⟩
    ·split
     ·exact⟨fun _=>rfl,fun _=>⟨hlen,hb⟩,fun _ e=>(by rcases e with e|e<;>cases e),fun _ e=>(by cases e),fun _=>hlim,fun e=>(by have:=(bA e).2;cases this),fun e=>(by have:=(bA e).2;cases this),fun _ _=>rfl,EN _⟩
     ·exact da.wrong rfl (EN _) (by decide)
theorem sK {m:Lm} {s:ar} (h:da m s):da m (bE s):=⟨h.oe,h.left,h.pos,h.nn,h.lim,h.ln,h.tt,h.all,h.tr⟩
end Go.Proofs.YthjbodpeckebiaaGreatDoor
-- BdL
namespace Go.Proofs.YthjbodpeckebiaaGreatDoor
open Go.RowKit
theorem ao.shape {w:World} {B:Nat} {v:Value} {l:List Fd} (h:ao w B v l):∃p n c,v=.slice p n c:=by
 obtain⟨_,h⟩:=h;rcases h with ⟨rfl,_⟩|⟨g,cap,cur,rfl,_⟩
 ·exact⟨_,_,_,rfl⟩
 ·exact⟨_,_,_,rfl⟩
theorem an.drewN {w:World} {D n0:Nat} {m:Lm} {s:ar} {V:cU} (h:an w D n0 m s V) (n:Nat):an (w.drewN n) D n0 m s V:=h.call (eS w n)
theorem DJ {w:World} {D n0:Nat} {m:Lm} {s:ar} {V:cU} (h:an w D n0 m s V) {v':Value} {l':List Fd} (o:ao w n0 v' l'):
 an (w.setCell ⟨D,10,none⟩ v') D n0 m { s with tr:=l' } { V with vt:=v' }/\aS w (w.setCell ⟨D,10,none⟩ v') D V { V with vt:=v' }:=by
 have T2:=bY w D 10 v';have hD:=h.ofD;refine⟨⟨h.k.set 10 _,h.d,ab h.o T2 (fun k hk e=>by obtain⟨_,cs,hb⟩:=aI h.o k hk;exact h.k.ne hb (by decide) e.symm),⟨ab h.r.a T2 (hD.own h.r.a (by decide)),ab o T2 (hD.own o (by decide)),fun e=>(h.r.n e).touch T2 hD (by decide) (by decide) (by decide),fun e=>?_,h.r.u,h.r.f⟩⟩,⟨T2.mono (fun _ _ e=>Or.inl e),fun _ _ e=>e⟩⟩;have b:=(h.r.l e).touch T2 hD (by decide) (by decide);exact⟨b.p,b.n,b.l⟩
theorem rM {w:World} {D n0:Nat} {m:Lm} {s:ar} {V:cU} (h:an w D n0 m s V) (hl:s.out.length<=999998) (ho:s.opens=true) (hm:s.md=.trailer) (hok:jC s.ln) (he:s.ln.e=0) (hw:s.ln.whole=false) (hal:s.all.length<=400000) (htot:dX s.all<=400000) (hn0:0<n0) {mx:Int} (hmx:w.cell? ⟨0,0,none⟩=some (.int .i64 mx)) (x:ByteArray) (hx:x.size<=1000000):
 Calls Tryz.prog 96 #[.pointer (some ⟨D,0,none⟩),.string x] w fun e w'=>e=.returned (.int .i64 (au m s x.data.toList).2)/\∃V',an w' D n0 m (au m s x.data.toList).1 V'/\aS w w' D V V':=by
 have hld:s.lined=true:=by unfold ar.lined;rw[ho,hm];rfl
 have HC:=lH (nF h (by omega) hld hok x hx);have HBL:=lH (fun(W:World) (V1:cU) (g:aS w W D V V1)=>show W.cell? ⟨0,0,none⟩=some (.int .i64 mx) from bI hmx hn0 (h.below g));rw[gq hm];cases hwh:(s.whole x.data.toList).2.2 with
 | false=>
   rw[if_pos rfl];rw[hwh] at HC;clear h hl ho hm hok he hw hld hmx;go_enter Tryz.func96,Tryz.ntmps96
   go_wp2_with (go_at_call 94;refine HC.out.mono ?_;rintro e1 w1 ⟨rfl,V1,h1,g1⟩;have H1:=lH h1;have G1:=lH g1;clear h1 g1)
   go_ret;exact⟨rfl,V1,H1.out,G1.out⟩
 | true=>
   rw[if_neg (by decide)];rw[hwh] at HC;obtain⟨hq1,hq2⟩:=g7 (x:=x.data.toList) he hw hwh;have hso:(s.whole x.data.toList).1.out=s.out:=by rw[hq1]
   have hsa:(s.whole x.data.toList).1.all=s.all:=by rw[hq1]
   have hso2:(s.whole x.data.toList).1.opens=true:=by rw[hq1];exact ho
   have hsl:(s.whole x.data.toList).1.lined=true:=by rw[hq1];exact hld
   generalize (s.whole x.data.toList).1=s1 at HC hq2 hso hsa hso2 hsl ⊢;generalize (s.whole x.data.toList).2.1=n at HC ⊢;have HO:=lH hso2;have HS:=lH hsl;have HQ:=lH hq2;have HAL:=lH (show s1.all.length<=400000 by rw[hsa];exact hal);have HTO:=lH (show dX s1.all<=400000 by rw[hsa];exact htot);have HL:=lH (show s1.out.length<=999998 by rw[hso];exact hl);clear h hl ho hm hok he hw hld hwh hq1 hq2 hso hsa hso2 hsl hmx hal htot;by_cases hli:s1.ln.line=[]
   ·rw[if_neg (fun h=>h hli)]
    have hle:(aw s1.ln.line).toList.isEmpty=true:=by rw[ah,hli];rfl
    clear hli;obtain⟨AL,hAL⟩:∃a,a=bq m.fold s1.all:=⟨_,rfl⟩;rw[<-hAL];obtain⟨fl,fe⟩:=AL;simp only;go_enter Tryz.func96,Tryz.ntmps96
    go_upto_region 8 with (first|(go_at_call 94;refine HC.out.mono ?_;rintro e1 w1 ⟨rfl,V1,h1,g1⟩;have y8:w1.cell? ⟨D,8,none⟩=some (.pointer (some ⟨V1.gl,0,none⟩)):=(h1.k.cell 8).trans (FH some (h1.r.l HS.out).p);have H1:=lH h1;have G1:=lH g1;clear h1 g1)|(go_at_call 72;refine(fu (H1.out.r.l HS.out).l HQ.out).mono ?_;rintro e2 w2 ⟨rfl,v2,h2,t2,b2⟩;have A2:=lH (H1.out.fed HS.out h2 (dG t2));have G2:=lH (G1.out.trans (aS.fed (V:=V1) (D:=D) (dG t2) (Or.inl b2)));clear h2 t2 b2))
    obtain⟨pa,ca,hva⟩:=(show ap w2 n0 V1.va s1.all from A2.out.r.a).shape;refine bm (S:=fun W=>W.cell? ⟨D,4,none⟩=some (.int .i64 m.fold)/\W.cell? ⟨D,9,none⟩=some (.slice pa s1.all.length ca)) (by kernel_rfl) ?_;intro W0 hW0;have A3:=lH (show an W0 D n0 m _ _ from hW0▸A2.out.drew);have G3:=lH (show aS w W0 D V _ from G2.out.trans (aS.of_below (hW0▸(EK _ _).drew)));have HST:=lH (show cQ W0 (.slice pa s1.all.length ca) s1.all by rw[<-hva];exact ap.strs (show ap W0 n0 V1.va s1.all from A3.out.r.a));have h0:W0.cell? ⟨D,4,none⟩=some (.int .i64 m.fold)/\W0.cell? ⟨D,9,none⟩=some (.slice pa s1.all.length ca):=⟨A3.out.k.cell 4,(A3.out.k.cell 9).trans (FH some hva)⟩;clear hW0;refine EL (i:=0) (v:=.pointer (some ⟨D,0,none⟩)) rfl (by kernel_rfl) (by kernel_rfl) (by kernel_rfl) (fun _ _ _ h=>h) (Or.inl ⟨by kernel_rfl,?hy0⟩) h0 ?rest0
    case hy0=>
     intro v hv;clear hv;go_simp
    (try simp only[Act.put,lS,lZ,lC])
    refine EL (i:=1) (v:=.pointer (some ⟨D,0,none⟩)) rfl (by kernel_rfl) (by kernel_rfl) (by kernel_rfl) (fun _ _ _ h=>h) (Or.inl ⟨by kernel_rfl,?hy1⟩) h0 ?rest1
    case hy1=>
     intro v hv;clear hv;go_simp
    (try simp only[Act.put,lS,lZ,lC])
    refine EL (i:=2) (v:=.pointer (some ⟨D,0,none⟩)) rfl (by kernel_rfl) (by kernel_rfl) (by kernel_rfl) (fun _ _ _ h=>h) (Or.inl ⟨by kernel_rfl,?hy2⟩) h0 ?rest2
    case hy2=>
     intro v hv;clear hv;go_simp
    (try simp only[Act.put,lS,lZ,lC])
    refine EL (i:=3) (v:=.pointer (some ⟨D,4,none⟩)) rfl (by kernel_rfl) (by kernel_rfl) (by kernel_rfl) (fun _ _ _ h=>h) (Or.inl ⟨by kernel_rfl,?hy3⟩) h0 ?rest3
    case hy3=>
     intro v hv;clear hv;go_simp
    (try simp only[Act.put,lS,lZ,lC])
    refine EL (i:=4) (v:=.int .i64 m.fold) rfl (by kernel_rfl) (by kernel_rfl) (by kernel_rfl) (fun _ _ _ h=>h) (Or.inl ⟨by kernel_rfl,?hy4⟩) h0 ?rest4
    case hy4=>
     intro v hv;have q:=hv.1;clear hv;go_simp
    (try simp only[Act.put,lS,lZ,lC])
    refine EL (i:=5) (v:=.pointer (some ⟨D,0,none⟩)) rfl (by kernel_rfl) (by kernel_rfl) (by kernel_rfl) (fun _ _ _ h=>h) (Or.inl ⟨by kernel_rfl,?hy5⟩) h0 ?rest5
    case hy5=>
     intro v hv;clear hv;go_simp
    (try simp only[Act.put,lS,lZ,lC])
    refine EL (i:=6) (v:=.pointer (some ⟨D,0,none⟩)) rfl (by kernel_rfl) (by kernel_rfl) (by kernel_rfl) (fun _ _ _ h=>h) (Or.inl ⟨by kernel_rfl,?hy6⟩) h0 ?rest6
    case hy6=>
     intro v hv;clear hv;go_simp
    (try simp only[Act.put,lS,lZ,lC])
    refine EL (i:=7) (v:=.pointer (some ⟨D,9,none⟩)) rfl (by kernel_rfl) (by kernel_rfl) (by kernel_rfl) (fun _ _ _ h=>h) (Or.inl ⟨by kernel_rfl,?hy7⟩) h0 ?rest7
    case hy7=>
     intro v hv;clear hv;go_simp
    (try simp only[Act.put,lS,lZ,lC])
    refine EL (i:=8) (v:=.slice pa s1.all.length ca) rfl (by kernel_rfl) (by kernel_rfl) (by kernel_rfl) (fun _ _ _ h=>h) (Or.inl ⟨by kernel_rfl,?hy8⟩) h0 ?rest8
    case hy8=>
     intro v hv;have q:=hv.2;clear hv;go_simp
    (try simp only[Act.put,lS,lZ,lC])
    refine Fe (rs:=[9]) (by kernel_rfl) (by simp) ?_;refine EZ rfl (fun K hK=>?_) E9;go_simp;refine(tZ m.fold (.slice pa s1.all.length ca) s1.all W0 (HBL.out _ _ G3.out) HST.out (nT HAL.out (by decide)) (nT HTO.out (by decide))).mono ?_;rintro e W3 ⟨vt,rfl,hot,hb3⟩;have A4:=lH (A3.out.call hb3);have G4:=lH (G3.out.trans (aS.of_below hb3));rw[<-hAL];rw[<-hAL] at hot;have HT:=lH (hot.lower A3.out.size);have h3:W3.cell? ⟨D,4,none⟩=some (.int .i64 m.fold)/\W3.cell? ⟨D,9,none⟩=some (.slice pa s1.all.length ca):=⟨A4.out.k.cell 4,(A4.out.k.cell 9).trans (FH some hva)⟩;refine hK _ _ h3 (fun _=>?_);clear hK K h0 hot hb3 hAL;(try simp only[Act.put,lS,lZ,lC])
    obtain⟨pt,nt,ct,rfl⟩:=HT.out.shape;refine EL (i:=10) (v:=.tuple #[.slice pt nt ct,.int .i64 fe]) rfl (by kernel_rfl) (by kernel_rfl) (by kernel_rfl) (fun _ _ _ h=>h) (Or.inl ⟨by kernel_rfl,?hyh1⟩) h3 ?resth1
    case hyh1=>
     intro v hv;clear hv;go_simp
    (try simp only[Act.put,lS,lZ,lC])
    refine EL (i:=11) (v:=.slice pt nt ct) rfl (by kernel_rfl) (by kernel_rfl) (by kernel_rfl) (fun _ _ _ h=>h) (Or.inl ⟨by kernel_rfl,?hyh2⟩) h3 ?resth2
    case hyh2=>
     intro v hv;clear hv;go_simp
    (try simp only[Act.put,lS,lZ,lC])
    refine EL (i:=12) (v:=.int .i64 fe) rfl (by kernel_rfl) (by kernel_rfl) (by kernel_rfl) (fun _ _ _ h=>h) (Or.inl ⟨by kernel_rfl,?hyh3⟩) h3 ?resth3
    case hyh3=>
     intro v hv;clear hv;go_simp
    (try simp only[Act.put,lS,lZ,lC])
    refine Fe (rs:=[13]) (by kernel_rfl) (by simp) ?_;refine EZ rfl (fun K hK=>?_) E9;go_simp;refine hK _ _ h3 (fun _=>?_);clear hK K;(try simp only[Act.put,lS,lZ,lC])
    refine Fe (rs:=[14]) (by kernel_rfl) (by simp) ?_;refine EZ rfl (fun K hK=>?_) E9;go_simp;refine hK _ _ h3 (fun _=>?_);clear hK K;(try simp only[Act.put,lS,lZ,lC])
    refine wpAnyH_done (by kernel_rfl) ?_ _;have y9:W3.cell? ⟨D,9,none⟩=some (.slice pa s1.all.length ca):=(A4.out.k.cell 9).trans (FH some hva);have y1:W3.cell? ⟨D,1,none⟩=some (.int .i64 m.fields):=A4.out.k.cell 1;have z10:W3.frozen? ⟨D,10,none⟩=false:=A4.out.k.froz 10;have y10:W3.cell? ⟨D,10,none⟩=some V1.vt:=A4.out.k.cell 10;clear h3 hva;by_cases c1:m.fields<(s1.all.length:Int)
    ·have d1:decide ((s1.all.length:Int) > m.fields)=true:=dT c1
     go_wp2_with fail
     go_quiet (fail)
     go_wp2_with (go_at_call 67;refine(eF (A4.out.drewN _) (nT HL.out (by decide)) 4 (by decide)).mono ?_;rintro e5 w5 ⟨rfl,vo,h5,g5⟩;have H5:=lH h5;have G5:=lH g5;clear h5 g5)
     go_ret;exact⟨rfl,_,H5.out,(G4.out.trans (aS.of_below (eS W3 _))).trans G5.out⟩
    ·have d1:decide ((s1.all.length:Int) > m.fields)=false:=dF c1
     by_cases c2:fe=0
     ·subst c2
      go_wp2_with fail
      go_quiet (fail)
      go_wp2_with (go_at_call 66;refine(lz (DJ (A4.out.drewN _) (HT.out.call (eS W3 _))).1 (nT HL.out (by decide))).mono ?_;rintro e5 w5 ⟨rfl,vo,h5,g5⟩;have H5:=lH h5;have G5:=lH g5;clear h5 g5)
      go_ret;try rw[if_neg (fun h=>h rfl)]
      exact⟨rfl,_,H5.out,((G4.out.trans (aS.of_below (eS W3 _))).trans (DJ (A4.out.drewN _) (HT.out.call (eS W3 _))).2).trans G5.out⟩
     ·have d2:(fe != 0)=true:=by rw[FP];exact c2
      have d3:(fe==0)=false:=by rw[EJ];exact c2
      go_wp2_with fail
      go_quiet (fail)
      go_wp2_with (go_at_call 67;refine(eF (A4.out.drewN _) (nT HL.out (by decide)) fe c2).mono ?_;rintro e5 w5 ⟨rfl,vo,h5,g5⟩;have H5:=lH h5;have G5:=lH g5;clear h5 g5)
      go_ret;try rw[if_pos c2]
      exact⟨rfl,_,H5.out,(G4.out.trans (aS.of_below (eS W3 _))).trans G5.out⟩
   ·rw[if_pos hli]
    have hle:(aw s1.ln.line).toList.isEmpty=false:=by
     rw[ah];show s1.ln.line.isEmpty=false;cases e:s1.ln.line with
     | nil=>exact absurd e hli
     | cons a b=>rfl
    go_enter Tryz.func96,Tryz.ntmps96
    go_wp2_with (first|(go_at_call 94;refine HC.out.mono ?_;rintro e1 w1 ⟨rfl,V1,h1,g1⟩;have y8:w1.cell? ⟨D,8,none⟩=some (.pointer (some ⟨V1.gl,0,none⟩)):=(h1.k.cell 8).trans (FH some (h1.r.l HS.out).p);have H1:=lH h1;have G1:=lH g1;clear h1 g1)|(go_at_call 72;refine(fu (H1.out.r.l HS.out).l HQ.out).mono ?_;rintro e2 w2 ⟨rfl,v2,h2,t2,b2⟩;have A2:=lH (H1.out.fed HS.out h2 (dG t2));have G2:=lH (G1.out.trans (aS.fed (V:=V1) (D:=D) (dG t2) (Or.inl b2)));have y9:w2.cell? ⟨D,9,none⟩=some V1.va:=A2.out.k.cell 9;clear h2 t2 b2)|(at_builtin;go_loud (refine gQ rfl _ _ rfl rfl (show ap w2 n0 V1.va s1.all from A2.out.r.a) (aw s1.ln.line) rfl (nT HAL.out (by decide)) A2.out.size ?_;intro g3 c3 w3 ho3 ht3 hg3;have B3:=lH (D8 A2.out ho3 ht3 (hg3.imp (fun e=>e.trans rfl) (fun h k hk=>by cases hk;exact h)));have k3:=A2.out.k.touch ht3 (fun e=>by obtain⟨_,cs,hb⟩:=aI A2.out.r.a D e;exact A2.out.k.ne hb (by decide) rfl);have z9:=k3.froz 9;have y9:w3.cell? ⟨D,9,none⟩=some V1.va:=k3.cell 9;clear ho3 ht3 hg3 k3)))
    go_ret;exact⟨rfl,_,B3.out.1,G2.out.trans B3.out.2⟩
end Go.Proofs.YthjbodpeckebiaaGreatDoor
-- BdM
namespace Go.Proofs.YthjbodpeckebiaaGreatDoor
open Go.RowKit
theorem uL {m:Lm} {s:ar} {x:List UInt8} (hm:s.md=.rest):au m s x=(s.rest x,x.length):=by unfold au;rw[hm]
theorem yT {w:World} {D n0:Nat} {m:Lm} {s:ar} {V:cU} (h:an w D n0 m s V) (hb:da m s) (ho:s.opens=true) (hl:s.out.length<=900000) (hn0:0<n0) {mx:Int} (hmx:w.cell? ⟨0,0,none⟩=some (.int .i64 mx)) (x:ByteArray) (hx0:0<x.size) (hx:x.size<=1000000):
 ∃f a c,V.vn=.func (.func f) a c/\(∀xs W,(callFunc f xs).run Tryz.prog W=.ok (.enter f xs) W)/\Calls Tryz.prog f (a.push (.string x)++c) w fun e w'=>e=.returned (.int .i64 (au m s x.data.toList).2)/\∃V',an w' D n0 m (au m s x.data.toList).1 V'/\aS w w' D V V':=by
 have hn:=h.r.n ho;obtain⟨l0,l1⟩:=hb.left ho;obtain⟨m0,m1,m2,m3⟩:=hb.lim ho;cases hm:s.md with
 | nothing=>exact absurd hm (hb.nn ho)
 | rest=>
   rw[hm] at hn;refine⟨_,_,_,hn,fun _ _=>by kernel_rfl,?_⟩;rw[uL hm];exact(ra h (by omega) x hx).mono fun _ _ ⟨h1,vo,h2,h3⟩=>⟨by rw[h1,Lib.size_eq],_,h2,h3⟩
 | sized=>
   rw[hm] at hn;exact⟨_,_,_,hn,fun _ _=>by kernel_rfl,vP h (by omega) hm x hx l0 l1⟩
 | data=>
   rw[hm] at hn;exact⟨_,_,_,hn,fun _ _=>by kernel_rfl,yZ h (by omega) hm x hx l0 l1⟩
 | size=>
   rw[hm] at hn;obtain⟨k1,k2,k3⟩:=hb.ln (nD ho hm);exact⟨_,_,_,hn,fun _ _=>by kernel_rfl,yI h (by omega) ho hm k1 k2 k3 m2 m3 x hx⟩
 | trailer=>
   rw[hm] at hn;obtain⟨k1,k2,k3⟩:=hb.ln (gx ho hm);have ha:=hb.all' (gx ho hm);exact⟨_,_,_,hn,fun _ _=>by kernel_rfl,rM h (by omega) ho hm k1 k2 k3 (by omega) (by omega) hn0 hmx x hx⟩
 | lf=>
   rw[hm] at hn;obtain⟨bc,bd,bt,hv,k1,k2,k3⟩:=hn;exact⟨_,_,_,hv,fun _ _=>by kernel_rfl,BC h (by omega) ho hm m0 m1 x hx0 bc bd bt k1 k2 k3⟩
 | cr=>
   rw[hm] at hn;obtain⟨lf,⟨bc,bd,bt,hv,k1,k2,k3⟩,hlf⟩:=hn;have hlf':=hlf;obtain⟨_,_,_,hv2,_⟩:=hlf';subst hv2;exact⟨_,_,_,hv,fun _ _=>by kernel_rfl,Bc h (by omega) ho hm x hx0 bc bd bt _ _ _ hlf k1 k2 k3⟩
def cF (m:Lm) (s:ar) (x:List UInt8):ar×Nat:=cZ m (x.length+1) s x
def bM (D:Nat) (w:World):Nat:=match w.cell? ⟨D,12,none⟩,w.cell? ⟨D,13,none⟩ with
 | some (.bool false),some (.int _ e)=>if e=0 then 1 else 0
 | _,_=>0
theorem D1 {w:World} {D:Nat} {m:Lm} {s:ar} {V:cU} (h:af w D (fg m s V) 117):bM D w=if s.opens=true then 1 else 0:=by
 have y12:w.cell? ⟨D,12,none⟩=some (.bool s.over):=h.cell 12;have y13:w.cell? ⟨D,13,none⟩=some (.int .i64 s.e):=h.cell 13;unfold bM ar.opens;rw[y12,y13];cases s.over with
 | true=>simp
 | false=>
   by_cases he:s.e=0
   ·simp[he]
   ·simp[he]
theorem xo {w:World} {D n0:Nat} {m:Lm} {s:ar} {V:cU} (h:an w D n0 m s V) (hb:da m s) (hl:s.out.length<=1000) (hn0:0<n0) {mx:Int} (hmx:w.cell? ⟨0,0,none⟩=some (.int .i64 mx)) (S:ByteArray) (hS:S.size<=100000):
 Calls Tryz.prog 38 #[.pointer (some ⟨D,0,none⟩),.string S] w fun e w'=>∃vo V',e=.returned (.tuple #[.int .i64 (cF m s S.data.toList).2,vo])/\an w' D n0 m (bE (cF m s S.data.toList).1) V'/\cB w' n0 vo (cF m s S.data.toList).1.out/\aS w w' D V V'/\V'.vo=.slice none 0 0/\da m (bE (cF m s S.data.toList).1)/\(cF m s S.data.toList).1.out.length<=300000:=by
 obtain⟨R,hR⟩:∃R,R=cF m s S.data.toList:=⟨_,rfl⟩;rw[<-hR];have hn:S.data.toList.length=S.size:=(Lib.size_eq S).symm;have HBL:=lH (fun(W:World) (V1:cU) (g:aS w W D V V1)=>show W.cell? ⟨0,0,none⟩=some (.int .i64 mx) from bI hmx hn0 (h.below g));have H:=lH h;have HR:=lH hR;have HB:=lH hb;have HN:=lH hn;have HL:=lH hl;clear h hR hb hn hl hmx;go_enter Tryz.func38,Tryz.ntmps38
 go_wp2_with fail
 go_loopw [4] (fun u4 wr=>∃(k f:Nat) (sk:ar) (Vk:cU),k<=S.size/\u4=.int .i64 k/\an wr D n0 m sk Vk/\da m sk/\R=((cZ m f sk (S.data.toList.drop k)).1,k+(cZ m f sk (S.data.toList.drop k)).2)/\aS w wr D V Vk/\S.size - k+(if sk.opens=true then 1 else 0)<=f/\sk.out.length+2*f<=1000+2*(S.size+1)) (fun u4 wr=>2*(S.size - (intOf u4).toNat)+bM D wr)
 case atStart=>
  refine⟨0,S.data.toList.length+1,s,V,EN _,rfl,H.out,HB.out,?_,aS.refl _ _ _,?_,?_⟩
  ·rw[HR.out,Ff,FQ];rfl
  ·rw[HN.out];split<;>omega
  ·have:=HL.out;have:=HN.out;omega
 case round=>
  obtain⟨k,f,sk,Vk,hk,rfl,hat,hok,hpre,hgo,hf,hlo⟩:=hrel;have HA:=lH hat;have HO:=lH hok;have HP:=lH hpre;have HG:=lH hgo;have HF:=lH hf;have HLO:=lH hlo;clear hat hok hpre hgo hf hlo;obtain⟨OP,hOP⟩:∃b,b=sk.opens:=⟨_,rfl⟩;have HOP:=lH hOP;clear hOP;by_cases hlt:k<S.size
  ·have hk1:decide ((k:Int)<(S.size:Int))=true:=dT (by omega)
   have hne:S.data.toList.drop k≠[]:=by
    intro e;have:=FH List.length e;rw[ES,HN.out] at this;simp at this;omega
   have HNE:=lH hne;clear hne;cases OP with
   | false=>
     have hfin:R=(sk,k):=by rw[HP.out,aO (Or.inr HOP.out.symm)];rfl
     have HFI:=lH hfin;clear hfin;go_wp2_with (first|(go_at_call 64;refine(lN HA.out).mono ?_;rw[<-HOP.out];rintro e1 w1 ⟨rfl,rfl⟩)|(go_at_call 65;refine(ij HA.out).mono ?_;rintro e2 w2 ⟨rfl,h2,o2,g2⟩;have H2:=lH h2;have O2:=lH o2;have G2:=lH g2;clear h2 o2 g2))
     go_ret2
     refine⟨Vk.vo,_,by rw[HFI.out];rfl,by rw[HFI.out];exact H2.out,by rw[HFI.out];exact O2.out,HG.out.trans G2.out,rfl,by rw[HFI.out];exact sK HO.out,?_⟩;rw[HFI.out];have:=HLO.out;show sk.out.length<=_;omega
   | true=>
     have hf1:∃f',f=f'+1:=⟨f - 1,by have:=HF.out;rw[if_pos HOP.out.symm] at this;omega⟩;obtain⟨f',rfl⟩:=hf1;obtain⟨T,hT⟩:∃T,T=S.extract k S.size:=⟨_,rfl⟩;have hTl:T.data.toList=S.data.toList.drop k:=by rw[hT];exact kV S k
     have hTs:T.size<=1000000:=by rw[hT,Gh];omega
     have hT0:0<T.size:=by rw[hT,Gh];omega
     have hsl:∀W:World,(Instr.slice 9 (.string S) (some (.int .i64 (k:Int))) none none).run Tryz.prog W=.ok (.string T) W:=fun W=>by
      rw[FR W 9 S Tryz.underlying9 .i64 (k:Int) (by omega) (by omega),EX,<-hT]
     have hso:=sM HO.out HOP.out.symm HNE.out;have hpr:=HP.out;rw[ju HNE.out HOP.out.symm] at hpr;rw[<-hTl] at hso hpr;have HTL:=lH hTl;have hst:=fun(W:World) (hW:an W D n0 m sk Vk) (hm:W.cell? ⟨0,0,none⟩=some (.int .i64 mx))=>yT hW HO.out HOP.out.symm (by have:=HLO.out;omega) hn0 hm T hT0 hTs;generalize au m sk T.data.toList=Q at hso hpr hst;obtain⟨q1,q2⟩:=Q
     have hq2:q2<=S.size - k:=by
      have:=hso.le;rw[hTl,ES,HN.out] at this;exact this
     have hgo0:=hso.go;have hqo:=hso.out;have HQ0:=lH hgo0;have HQL:=lH hq2;have HQO:=lH hqo;have HQK:=lH hso.ok;have HPR:=lH hpr;have HST:=lH hst;have hm0:=D1 HA.out.k;rw[if_pos HOP.out.symm] at hm0;have HM0:=lH hm0;clear hso hpr hst hgo0 hqo hm0 hTl hTs hT hT0 hq2
     have hw1:wrap64 ((k:Int)+(q2:Int))=((k+q2:Nat):Int):=by
      have:=HQL.out;rw[FY _ ⟨by omega,by omega⟩];omega
     have hw2:IntKind.i64.wrap ((k:Int)+(q2:Int))=(k:Int)+(q2:Int):=by
      have:=HQL.out;exact IntWalk.i64_in _ (by omega)
     go_upto_region 2 with (go_at_call 64;refine(lN HA.out).mono ?_;rw[<-HOP.out];rintro e1 w1 ⟨rfl,rfl⟩)
     refine bm (S:=fun _=>True) (by kernel_rfl) ?_;intro W0 hW0;have A0:=lH (show an W0 D n0 m sk Vk from hW0▸HA.out.drew);have G0:=lH (show aS w W0 D V Vk from HG.out.trans (aS.of_below (hW0▸(EK _ _).drew)));clear hW0;obtain⟨fn,fa,fc,hvn,hcf,hcall⟩:=HST.out W0 A0.out (HBL.out _ _ G0.out);have y5:W0.cell? ⟨D,5,none⟩=some (.func (.func fn) fa fc):=(A0.out.k.cell 5).trans (FH some hvn);have HC:=lH hcall;clear hcall hvn;refine EL (i:=0) (v:=.int .i64 (k:Int)) rfl (by kernel_rfl) (by kernel_rfl) (by kernel_rfl) (fun _ _ _ h=>h) (Or.inl ⟨by kernel_rfl,?hyh4⟩) trivial ?resth4
     case hyh4=>
      intro v hv;clear hv;go_simp
     (try simp only[Act.put,lS,lZ,lC])
     refine EL (i:=1) (v:=.pointer (some ⟨D,0,none⟩)) rfl (by kernel_rfl) (by kernel_rfl) (by kernel_rfl) (fun _ _ _ h=>h) (Or.inl ⟨by kernel_rfl,?hyh5⟩) trivial ?resth5
     case hyh5=>
      intro v hv;clear hv;go_simp
     (try simp only[Act.put,lS,lZ,lC])
     refine EL (i:=2) (v:=.pointer (some ⟨D,0,none⟩)) rfl (by kernel_rfl) (by kernel_rfl) (by kernel_rfl) (fun _ _ _ h=>h) (Or.inl ⟨by kernel_rfl,?hyh6⟩) trivial ?resth6
     case hyh6=>
      intro v hv;clear hv;go_simp
     (try simp only[Act.put,lS,lZ,lC])
     refine EL (i:=3) (v:=.pointer (some ⟨D,5,none⟩)) rfl (by kernel_rfl) (by kernel_rfl) (by kernel_rfl) (fun _ _ _ h=>h) (Or.inl ⟨by kernel_rfl,?hyh7⟩) trivial ?resth7
     case hyh7=>
      intro v hv;clear hv;go_simp
     (try simp only[Act.put,lS,lZ,lC])
     refine EL (i:=5) (v:=.string S) rfl (by kernel_rfl) (by kernel_rfl) (by kernel_rfl) (fun _ _ _ h=>h) (Or.inl ⟨by kernel_rfl,?hyh8⟩) trivial ?resth8
     case hyh8=>
      intro v hv;clear hv;go_simp
     (try simp only[Act.put,lS,lZ,lC])
     refine EL (i:=6) (v:=.int .i64 (k:Int)) rfl (by kernel_rfl) (by kernel_rfl) (by kernel_rfl) (fun _ _ _ h=>h) (Or.inl ⟨by kernel_rfl,?hyh9⟩) trivial ?resth9
     case hyh9=>
      intro v hv;clear hv;go_simp
     (try simp only[Act.put,lS,lZ,lC])
     refine EL (i:=7) (v:=.string T) rfl (by kernel_rfl) (by kernel_rfl) (by kernel_rfl) (fun _ _ _ h=>h) (Or.inl ⟨by kernel_rfl,?hyh10⟩) trivial ?resth10
     case hyh10=>
      intro v hv;clear hv;go_simp
     (try simp only[Act.put,lS,lZ,lC])
     refine Fe (rs:=[4]) (by kernel_rfl) (by simp) ?_;refine EZ rfl (fun K hK=>?_) E9;go_simp;refine hK _ _ trivial (fun _=>?_);clear hK K y5;(try simp only[Act.put,lS,lZ,lC])
     refine Fe (rs:=[8]) (by kernel_rfl) (by simp) ?_;refine EZ rfl (fun K hK=>?_) E9;go_simp;refine HC.out.mono ?_;rintro e W1 ⟨rfl,V1,h1,g1⟩;have H1:=lH h1;have G1:=lH (G0.out.trans g1);clear h1 g1;refine hK _ _ trivial (fun _=>?_);clear hK K;(try simp only[Act.put,lS,lZ,lC])
     refine EL (i:=9) (v:=.int .i64 ((k+q2:Nat):Int)) rfl (by kernel_rfl) (by kernel_rfl) (by kernel_rfl) (fun _ _ _ h=>h) (Or.inl ⟨by kernel_rfl,?hyh11⟩) trivial ?resth11
     case hyh11=>
      intro v hv;clear hv;go_simp
     (try simp only[Act.put,lS,lZ,lC])
     refine Fe (rs:=[10]) (by kernel_rfl) (by simp) ?_;refine EZ rfl (fun K hK=>?_) E9;go_simp;refine hK _ _ trivial (fun _=>?_);clear hK K;(try simp only[Act.put,lS,lZ,lC])
     refine wpAnyH_done (by kernel_rfl) ?_ _;go_wp2_with fail
     go_roundw
     case rel=>
      refine⟨k+q2,f',q1,V1,by have:=HQL.out;omega,rfl,H1.out,HQK.out,?_,G1.out,?_,?_⟩
      ·rw[HPR.out,HTL.out,Fb]
       exact Prod.ext rfl (Gg _ _ _).symm
      ·have h1:=HF.out
       rw[if_pos HOP.out.symm] at h1;by_cases h0:q2=0
       ·rw[HQ0.out h0]
        simp;omega
       ·split<;>omega
      ·have h1:=HLO.out
       have h2:=HQO.out;have h3:q1.out.length<=sk.out.length+2:=h2;omega
     case measure=>
      rw[HM0.out,D1 H1.out.k];simp[intOf];have h1:=HQ0.out;have h2:=HQL.out;by_cases h3:q2=0
      ·rw[h1 h3]
       simp;omega
      ·split<;>omega
  ·have hk1:decide ((k:Int)<(S.size:Int))=false:=dF (by omega)
   have hke:k=S.size:=by omega
   have hfin:R=(sk,k):=by rw[HP.out,aO (Or.inl (by rw[List.drop_eq_nil_iff];rw[HN.out];omega))];rfl
   have HFI:=lH hfin;clear hfin hke;go_wp2_with (go_at_call 65;refine(ij HA.out).mono ?_;rintro e2 w2 ⟨rfl,h2,o2,g2⟩;have H2:=lH h2;have O2:=lH o2;have G2:=lH g2;clear h2 o2 g2)
   go_ret2
   refine⟨Vk.vo,_,by rw[HFI.out];rfl,by rw[HFI.out];exact H2.out,by rw[HFI.out];exact O2.out,HG.out.trans G2.out,rfl,by rw[HFI.out];exact sK HO.out,?_⟩;rw[HFI.out];have:=HLO.out;show sk.out.length<=_;omega
end Go.Proofs.YthjbodpeckebiaaGreatDoor
-- RbP
namespace Go.Proofs.YthjbodpeckebiaaGreatDoor
open Go.RowKit
def wO (fold fields:Int):List (List UInt8)->Nat->List ByteArray->Option ((List Fd×Int)×Nat)
 | [],_,_=>none
 | l :: r,at_,got=>if l≠[] then wO fold fields r (at_+(l.length+2)) (got++[aw l])
   else some (if fields<(got.length:Int) then ([],4) else if (bq fold got).2≠0 then ([],(bq fold got).2) else ((bq fold got).1,0),at_+2)
structure iI where
 body:List UInt8
 sizes:List Int
 tr:List Fd
 used:Nat
 over:Bool
 err:Int
def fW (m:Lm) (x:List UInt8):iI:=
 match wO m.fold m.fields (cP m.head x 0 [] false).1 0 [] with
 | none=>⟨[],[],[],(cP m.head x 0 [] false).2.2.1,false,(cP m.head x 0 [] false).2.2.2⟩
 | some (r,u)=>⟨[],[],r.1,u,r.2==0,r.2⟩
def iI.behind (g:iI) (b:List UInt8) (n:Int) (u:Nat):iI:={ g with body:=b++g.body,sizes:=n :: g.sizes,used:=u+g.used }
def bW (m:Lm):Nat->List UInt8->iI
 | 0,_=>⟨[],[],[],0,false,0⟩
 | f+1,x=>if x=[] then ⟨[],[],[],0,false,0⟩ else
   match (cP m.line x 0 [] false).1 with
   | []=>⟨[],[],[],(cP m.line x 0 [] false).2.2.1,false,(cP m.line x 0 [] false).2.2.2⟩
   | l :: _=>
     if (ak l).2≠0 then ⟨[],[],[],l.length+2,false,(ak l).2⟩
     else if (ak l).1=0 then { fW m (x.drop (l.length+2)) with used:=l.length+2+(fW m (x.drop (l.length+2))).used }
     else if ((x.drop (l.length+2)).length:Int)<=(ak l).1 then ⟨x.drop (l.length+2),[(ak l).1],[],x.length,false,0⟩
     else match (x.drop (l.length+2)).drop (ak l).1.toNat with
      | []=>⟨[],[],[],0,false,0⟩
      | a :: z=>if a≠13 then ⟨(x.drop (l.length+2)).take (ak l).1.toNat,[(ak l).1],[],l.length+2+(ak l).1.toNat,false,3⟩
        else match z with
         | []=>⟨(x.drop (l.length+2)).take (ak l).1.toNat,[(ak l).1],[],l.length+2+(ak l).1.toNat+1,false,0⟩
         | b :: y=>if b≠10 then ⟨(x.drop (l.length+2)).take (ak l).1.toNat,[(ak l).1],[],l.length+2+(ak l).1.toNat+1,false,3⟩
           else (bW m f y).behind ((x.drop (l.length+2)).take (ak l).1.toNat) (ak l).1 (l.length+2+(ak l).1.toNat+2)
def bD (m:Lm) (k n:Int) (x:List UInt8):iI:=
 if n<0\/k<0\/3<k\/m.line<0\/65536<m.line\/m.head<0\/65536<m.head then ⟨[],[],[],0,false,1⟩
 else if k=0 then ⟨[],[],[],0,true,0⟩
 else if k=1 then ⟨x.take (min (x.length:Int) n).toNat,[],[],(min (x.length:Int) n).toNat,min (x.length:Int) n==n,0⟩
 else if k=3 then ⟨x,[],[],x.length,false,0⟩
 else bW m (x.length+1) x
def bk (m:Lm) (k n:Int) (closed:Bool) (x:List UInt8):iI:=
 let g:=bD m k n x
 if closed=false\/g.over=true\/g.err≠0 then g else if k=3 then { g with over:=true } else { g with err:=19 }
def jJ (l:List Pc):List Int:=l.filterMap fun p=>if p.k=2 then some p.n else none
def fP (l:List Pc):List UInt8:=l.flatMap fun p=>if p.k=3 then p.t.data.toList else []
theorem jV (a b:List Pc):jJ (a++b)=jJ a++jJ b:=by unfold jJ;rw[List.filterMap_append]
theorem kr (a b:List Pc):fP (a++b)=fP a++fP b:=by unfold fP;rw[List.flatMap_append]
theorem xa (most:Int):∀(x:List UInt8) (ln:gk) (i j:Nat),ln.whole=false->ln.e=0->ln.left=most - i->j=ln.line.length+(if ln.turn=true then 1 else 0)->
 if (ac x ln).1.whole=true then cP most x i ln.line ln.turn=((ac x ln).1.line :: (cP most (x.drop (ac x ln).2) (i+(ac x ln).2) [] false).1,(cP most (x.drop (ac x ln).2) (i+(ac x ln).2) [] false).2)/\j+(ac x ln).2=(ac x ln).1.line.length+2/\(ac x ln).1.e=0/\(ac x ln).1.left=most - (i+(ac x ln).2:Nat)/\(ac x ln).1.turn=false
 else (cP most x i ln.line ln.turn).1=[]/\(cP most x i ln.line ln.turn).2.2.1=i+(ac x ln).2/\(cP most x i ln.line ln.turn).2.2.2=(ac x ln).1.e/\((ac x ln).1.e=0->(ac x ln).2=x.length)
 | [],ln,i,j,hw,he,_,_=>by
   have e:ac [] ln=(ln,0):=rfl;rw[e,if_neg (by rw[hw];decide)];exact⟨rfl,rfl,he.symm,fun _=>rfl⟩
 | c :: x,ln,i,j,hw,he,hl,hi=>by
   obtain⟨L,S,Ln,Wi,Tu,Wh,E⟩:=ln;simp only at hw he hl hi;subst hw he
   have estep:ac (c :: x) ⟨L,S,Ln,Wi,Tu,false,0⟩=if (bz ⟨L,S,Ln,Wi,Tu,false,0⟩ c).2=0 then ((ac x { (bz ⟨L,S,Ln,Wi,Tu,false,0⟩ c).1 with e:=0 }).1,(ac x { (bz ⟨L,S,Ln,Wi,Tu,false,0⟩ c).1 with e:=0 }).2+1) else ({ (bz ⟨L,S,Ln,Wi,Tu,false,0⟩ c).1 with e:=(bz ⟨L,S,Ln,Wi,Tu,false,0⟩ c).2 },0):=by
    rw[ac,if_neg (by simp)]
   by_cases h1:L=0
   ·have es:bz ⟨L,S,Ln,Wi,Tu,false,0⟩ c=(⟨L,S,Ln,Wi,Tu,false,0⟩,4):=by unfold bz;rw[if_pos h1]
    have hF:ac (c :: x) ⟨L,S,Ln,Wi,Tu,false,0⟩=(⟨L,S,Ln,Wi,Tu,false,4⟩,0):=by rw[estep,es];rfl
    have hR:cP most (c :: x) i Ln Tu=([],!Ln.isEmpty||Tu,i,4):=by rw[cP,if_pos (by omega)]
    rw[hF,hR,if_neg (by simp)];exact⟨rfl,rfl,rfl,fun h=>by cases h⟩
   ·have hm:¬(i:Int)=most:=by omega
    by_cases h2:Tu≠decide (c=10)
    ·have es:bz ⟨L,S,Ln,Wi,Tu,false,0⟩ c=(⟨L,S,Ln,Wi,Tu,false,0⟩,8):=by unfold bz;rw[if_neg h1,if_pos h2]
     have hF:ac (c :: x) ⟨L,S,Ln,Wi,Tu,false,0⟩=(⟨L,S,Ln,Wi,Tu,false,8⟩,0):=by rw[estep,es];rfl
     have hR:cP most (c :: x) i Ln Tu=([],!Ln.isEmpty||Tu,i,8):=by rw[cP,if_neg hm,if_pos h2]
     rw[hF,hR,if_neg (by simp)];exact⟨rfl,rfl,rfl,fun h=>by cases h⟩
    ·by_cases h3:c=13
     ·have es:bz ⟨L,S,Ln,Wi,Tu,false,0⟩ c=(⟨L - 1,S+1,Ln,true,true,false,0⟩,0):=by unfold bz;rw[if_neg h1,if_neg h2,if_pos h3];rfl
      have htu:Tu=false:=by
       have h2':Tu=decide (c=10):=by simpa using h2
       rw[h2',h3];decide
      subst htu;have hF:ac (c :: x) ⟨L,S,Ln,Wi,false,false,0⟩=((ac x ⟨L - 1,S+1,Ln,true,true,false,0⟩).1,(ac x ⟨L - 1,S+1,Ln,true,true,false,0⟩).2+1):=by rw[estep,es];rfl
      have hR:cP most (c :: x) i Ln false=cP most x (i+1) Ln true:=by rw[cP,if_neg hm,if_neg h2,if_pos h3]
      have ih:=xa most x ⟨L - 1,S+1,Ln,true,true,false,0⟩ (i+1) (j+1) rfl rfl (by simp only;omega) (by simp only[if_true];simpa using hi);simp only at ih;simp only;rw[hF,hR];simp only;split at ih
      ·rename_i hq
       rw[if_pos hq];refine⟨?_,by omega,ih.2.2.1,?_,ih.2.2.2.2⟩
       ·rw[ih.1,Fz,Gg,GI 1]
       ·rw[ih.2.2.2.1];omega
      ·rename_i hq
       rw[if_neg hq];exact⟨ih.1,by rw[ih.2.1];omega,ih.2.2.1,fun h=>by rw[ih.2.2.2 h];rfl⟩
     ·by_cases h4:c=10
      ·have es:bz ⟨L,S,Ln,Wi,Tu,false,0⟩ c=(⟨L - 1,S+1,Ln,false,false,true,0⟩,0):=by unfold bz;rw[if_neg h1,if_neg h2,if_neg h3,if_pos h4]
       have htu:Tu=true:=by
        have h2':Tu=decide (c=10):=by simpa using h2
        rw[h2',h4];decide
       subst htu
       have hF:ac (c :: x) ⟨L,S,Ln,Wi,true,false,0⟩=(⟨L - 1,S+1,Ln,false,false,true,0⟩,1):=by
        rw[estep,es];simp only[if_true];rw[dV _ _ (Or.inl rfl)]
       have hR:cP most (c :: x) i Ln true=(Ln :: (cP most x (i+1) [] false).1,(cP most x (i+1) [] false).2):=by rw[cP,if_neg hm,if_neg h2,if_neg h3,if_pos h4]
       simp only;rw[hF,hR];simp only[if_true];refine⟨rfl,?_,trivial,?_,trivial⟩
       ·simp at hi
        omega
       ·omega
      ·have es:bz ⟨L,S,Ln,Wi,Tu,false,0⟩ c=(⟨L - 1,S+1,Ln++[c],true,Tu,false,0⟩,0):=by unfold bz;rw[if_neg h1,if_neg h2,if_neg h3,if_neg h4];rfl
       have htu:Tu=false:=by
        have h2':Tu=decide (c=10):=by simpa using h2
        rw[h2'];exact dF h4
       subst htu;have hF:ac (c :: x) ⟨L,S,Ln,Wi,false,false,0⟩=((ac x ⟨L - 1,S+1,Ln++[c],true,false,false,0⟩).1,(ac x ⟨L - 1,S+1,Ln++[c],true,false,false,0⟩).2+1):=by rw[estep,es];rfl
       have hR:cP most (c :: x) i Ln false=cP most x (i+1) (Ln++[c]) false:=by rw[cP,if_neg hm,if_neg h2,if_neg h3,if_neg h4]
       have ih:=xa most x ⟨L - 1,S+1,Ln++[c],true,false,false,0⟩ (i+1) (j+1) rfl rfl (by simp only;omega) (by simp at hi;simp;omega);simp only at ih;simp only;rw[hF,hR];simp only;split at ih
       ·rename_i hq
        rw[if_pos hq];refine⟨?_,by omega,ih.2.2.1,?_,ih.2.2.2.2⟩
        ·rw[ih.1,Fz,Gg,GI 1]
        ·rw[ih.2.2.2.1];omega
       ·rename_i hq
        rw[if_neg hq];exact⟨ih.1,by rw[ih.2.1];omega,ih.2.2.1,fun h=>by rw[ih.2.2.2 h];rfl⟩
structure mF (R:ar×Nat) (out:List Pc) (u:Nat) (over:Bool) (e:Int) (tr:List Fd) (sz:List Int) (bd:List UInt8):Prop where
 u:R.2=u
 o:R.1.over=over
 e:R.1.e=e
 t:R.1.tr=tr
 s:jJ R.1.out=jJ out++sz
 b:fP R.1.out=fP out++bd
theorem mX (out:List Pc) (p:Pc) (h:p.k≠2):jJ (out++[p])=jJ out:=by
 rw[jV];unfold jJ;simp[h]
theorem jr (out:List Pc) (p:Pc) (h:p.k≠3):fP (out++[p])=fP out:=by
 rw[kr];unfold fP;simp[h]
theorem dq (m:Lm) (f:Nat) (s:ar) (x:List UInt8) {e:Int} (he:e≠0) (ho:s.over=false):mF (cZ m f (s.wrong e) x) s.out 0 false e s.tr [] []:=by
 rw[aO (Or.inr (dO s he))];exact⟨rfl,ho,rfl,rfl,by rw[Fp];exact mX s.out ⟨5,e,⟨#[]⟩⟩ (show (5:Int)≠2 by decide),by rw[Fp];exact jr s.out ⟨5,e,⟨#[]⟩⟩ (show (5:Int)≠3 by decide)⟩
theorem mF.more {R:ar×Nat} {out:List Pc} {u:Nat} {over:Bool} {e:Int} {tr:List Fd} {sz:List Int} {bd:List UInt8} (h:mF R out u over e tr sz bd) (k:Nat):mF (R.1,k+R.2) out (k+u) over e tr sz bd:=⟨by rw[<-h.u],h.o,h.e,h.t,h.s,h.b⟩
theorem Dy (m:Lm) (left:Int) (out:List Pc):∀(f:Nat) (x:List UInt8) (ln:gk) (all:List ByteArray) (i at_:Nat),x.length+1<=f->ln.line=[]->ln.whole=false->ln.turn=false->ln.e=0->ln.left=m.head - i->
  match wO m.fold m.fields (cP m.head x i [] false).1 at_ all with
  | none=>∃u,i+u=(cP m.head x i [] false).2.2.1/\mF (cZ m f ⟨.trailer,left,ln,all,[],false,false,0,out⟩ x) out u false (cP m.head x i [] false).2.2.2 [] [] []
  | some (r,at')=>∃u,at_+u=at'/\mF (cZ m f ⟨.trailer,left,ln,all,[],false,false,0,out⟩ x) out u (r.2==0) r.2 r.1 [] []
 | 0,x,_,_,_,_,hf,_,_,_,_,_=>by omega
 | f+1,x,ln,all,i,at_,hf,hli,hw,ht,he,hl=>by
   by_cases hx:x=[]
   ·subst hx
    have hR:cP m.head [] i [] false=([],false,i,0):=rfl;rw[hR];refine⟨0,rfl,?_⟩;rw[aO (Or.inl rfl)];exact⟨rfl,rfl,rfl,rfl,by simp,by simp⟩
   ·have hrd:=xa m.head x ln i 0 hw he hl (by rw[hli,ht];rfl)
    rw[hli,ht] at hrd;rw[ju hx rfl,gq rfl];have hwh:((⟨.trailer,left,ln,all,[],false,false,0,out⟩:ar).whole x).2.2=(ac x ln).1.whole:=rfl;have hwu:((⟨.trailer,left,ln,all,[],false,false,0,out⟩:ar).whole x).2.1=(ac x ln).2:=rfl;cases hq:(ac x ln).1.whole with
    | false=>
      rw[hq,if_neg (by decide)] at hrd;obtain⟨r1,r2,r3,r4⟩:=hrd;rw[r1];rw[hwh,hq,if_pos rfl];refine⟨(ac x ln).2,r2.symm,?_⟩;rw[r3];simp only[hwu];by_cases hz:(ac x ln).1.e=0
      ·have e1:((⟨.trailer,left,ln,all,[],false,false,0,out⟩:ar).whole x).1=⟨.trailer,left,(ac x ln).1,all,[],false,false,0,out⟩:=by
        unfold ar.whole;simp only;rw[if_pos hz]
       rw[e1,aO (Or.inl (by rw[r4 hz,List.drop_length])),hz];exact⟨rfl,rfl,rfl,rfl,by simp,by simp⟩
      ·have e1:((⟨.trailer,left,ln,all,[],false,false,0,out⟩:ar).whole x).1=(⟨.trailer,left,(ac x ln).1,all,[],false,false,0,out⟩:ar).wrong (ac x ln).1.e:=by
        unfold ar.whole;simp only;rw[if_neg hz]
       rw[e1];exact(dq m f _ _ hz rfl).more _
    | true=>
      rw[hq,if_pos rfl] at hrd;obtain⟨r1,r2,r3,r4,r5⟩:=hrd;obtain⟨q1,_⟩:=g7 (s:=⟨.trailer,left,ln,all,[],false,false,0,out⟩) (x:=x) he hw (hwh.trans hq);rw[hwh,hq,if_neg (by decide),hwu,q1,r1];simp only;rw[FQ] at r2;by_cases hl0:(ac x ln).1.line=[]
      ·rw[if_neg (fun h=>h hl0),hl0,wO,if_neg (fun h=>h rfl)]
       rw[hl0] at r2;have hu:(ac x ln).2=2:=r2;rw[hu];by_cases c1:m.fields<(all.length:Int)
       ·simp only[if_pos c1]
        exact⟨2,rfl,(dq m f ((⟨.trailer,left,(ac x ln).1,all,[],false,false,0,out⟩:ar).read (ac x ln).1) _ (e:=4) (by decide) rfl).more 2⟩
       ·simp only[if_neg c1]
        by_cases c2:(bq m.fold all).2=0
        ·simp only[c2,ne_eq,not_true,if_false]
         refine⟨2,rfl,?_⟩;rw[aO (Or.inr rfl)];exact⟨rfl,rfl,rfl,rfl,by rw[Fp];exact mX out ⟨4,0,⟨#[]⟩⟩ (show (4:Int)≠2 by decide),by rw[Fp];exact jr out ⟨4,0,⟨#[]⟩⟩ (show (4:Int)≠3 by decide)⟩
        ·simp only[ne_eq,c2,not_false_eq_true,if_true]
         refine⟨2,rfl,?_⟩;have hne:((bq m.fold all).2==0)=false:=by rw[EJ];exact c2
         rw[hne];exact(dq m f ((⟨.trailer,left,(ac x ln).1,all,[],false,false,0,out⟩:ar).read (ac x ln).1) _ c2 rfl).more 2
      ·rw[if_pos hl0,wO,if_pos hl0]
       have hle:=eE x ln;have ih:=Dy m left out f (x.drop (ac x ln).2) { (ac x ln).1 with line:=[],whole:=false } (all++[aw (ac x ln).1.line]) (i+(ac x ln).2) (at_+((ac x ln).1.line.length+2)) (by rw[ES];omega) rfl rfl r5 r3 r4;have e2:({ ({ (⟨.trailer,left,ln,all,[],false,false,0,out⟩:ar) with ln:=(ac x ln).1 }:ar).read (ac x ln).1 with all:=all++[aw (ac x ln).1.line] }:ar)=⟨.trailer,left,{ (ac x ln).1 with line:=[],whole:=false },all++[aw (ac x ln).1.line],[],false,false,0,out⟩:=rfl;rw[e2];generalize wO m.fold m.fields (cP m.head (x.drop (ac x ln).2) (i+(ac x ln).2) [] false).1 (at_+((ac x ln).1.line.length+2)) (all++[aw (ac x ln).1.line])=Z at ih ⊢;cases Z with
       | none=>
         obtain⟨u,h1,h2⟩:=ih;exact⟨(ac x ln).2+u,by rw[<-Gg];exact h1,h2.more _⟩
       | some Z=>
         obtain⟨r,at'⟩:=Z;obtain⟨u,h1,h2⟩:=ih;exact⟨(ac x ln).2+u,by rw[r2,<-Gg];exact h1,h2.more _⟩
end Go.Proofs.YthjbodpeckebiaaGreatDoor
-- BdN
namespace Go.Proofs.YthjbodpeckebiaaGreatDoor
open Go.RowKit
theorem bS (n:Int) (w:World):Calls Tryz.prog 76 #[.int .i64 n] w fun e w'=>e=.returned (.bool (decide (0<=n/\n<=65536)))/\w=w':=by
 by_cases h0:0<=n
 ·have d0:decide (n≥0)=true:=dT h0
  by_cases h1:n<=65536
  ·have d1:decide (n<=65536)=true:=dT h1
   rw[dT (And.intro h0 h1)];clear h0 h1;go_enter Tryz.func76,Tryz.ntmps76
   go_wp2_with fail
   go_ret;exact⟨rfl,rfl⟩
  ·have d1:decide (n<=65536)=false:=dF h1
   rw[dF (fun h:0<=n/\n<=65536=>h1 h.2)];clear h0 h1;go_enter Tryz.func76,Tryz.ntmps76
   go_wp2_with fail
   go_ret;exact⟨rfl,rfl⟩
 ·have d0:decide (n≥0)=false:=dF h0
  rw[dF (fun h:0<=n/\n<=65536=>h0 h.1)];clear h0;go_enter Tryz.func76,Tryz.ntmps76
  go_wp2_with fail
  go_ret;exact⟨rfl,rfl⟩
def ky (m:Lm) (len:Int):ar:=⟨.nothing,len,dC m.line,[],[],false,false,0,[]⟩
def pr (D:Nat) (p:Value):cU:=⟨D,.slice none 0 0,.func (.func 75) #[.pointer (some ⟨D,0,none⟩)] #[],.slice none 0 0,p,.slice none 0 0,.slice none 0 0⟩
def Bl (m:Lm):Array Value:=#[.int .i64 m.head,.int .i64 m.fields,.int .i64 m.line,.int .i64 m.body,.int .i64 m.fold]
def DZ (kind len:Int):Obj:=.cells #[.int .i64 kind,.int .i64 len] 46
def En (m:Lm):Obj:=.cells #[.int .i64 m.head,.int .i64 m.fields,.int .i64 m.line,.int .i64 m.body,.int .i64 m.fold] 24
structure nj (w W:World) (D g:Nat) (m:Lm) (kind len:Int) (p:Value):Prop where
 a:an W D w.heap.size m (ky m len) (pr D p)
 b:Below w.heap.size w W
 f:af W w.heap.size #[.int .i64 kind,.int .i64 len] 46
 l:af W (w.heap.size+1) (Bl m) 24
 fD:w.heap.size≠D
 lD:w.heap.size+1≠D
theorem dy (w X:World) (m:Lm) (kind len:Int) (p:Value) (g:Nat) (hb:Below (w.heap.size+3) (((w.alloc (DZ kind len)).alloc (En m)).alloc (.cells (fg m (ky m len) (pr (w.heap.size+1+1) p)) 117)) X):
 nj w X (w.heap.size+1+1) g m kind len p:=by
 have s3:(((w.alloc (DZ kind len)).alloc (En m)).alloc (.cells (fg m (ky m len) (pr (w.heap.size+1+1) p)) 117)).heap.size=w.heap.size+3:=by simp
 have k1:af (((w.alloc (DZ kind len)).alloc (En m)).alloc (.cells (fg m (ky m len) (pr (w.heap.size+1+1) p)) 117)) w.heap.size #[.int .i64 kind,.int .i64 len] 46:=((af.new w _ _).alloc _).alloc _;have k2:af (((w.alloc (DZ kind len)).alloc (En m)).alloc (.cells (fg m (ky m len) (pr (w.heap.size+1+1) p)) 117)) (w.heap.size+1) (Bl m) 24:=(af.new' (w:=w.alloc (DZ kind len)) (by simp)).alloc _;have k3:af (((w.alloc (DZ kind len)).alloc (En m)).alloc (.cells (fg m (ky m len) (pr (w.heap.size+1+1) p)) 117)) (w.heap.size+1+1) (fg m (ky m len) (pr (w.heap.size+1+1) p)) 117:=af.new' (w:=(w.alloc (DZ kind len)).alloc (En m)) (by simp);have hbw:Below w.heap.size w (((w.alloc (DZ kind len)).alloc (En m)).alloc (.cells (fg m (ky m len) (pr (w.heap.size+1+1) p)) 117)):=(((EK _ _).alloc (nR _) _).alloc (by simp) _).alloc (by simp;omega) _;rw[<-s3] at hb;have hne1:w.heap.size≠w.heap.size+1+1:=by omega
 have hne2:w.heap.size+1≠w.heap.size+1+1:=by omega
 exact⟨⟨k3.call hb,by omega,cB.start _ _,⟨ap.start _ _,ao.start _ _,fun _=>rfl,fun e=>(by cases e),fun _=>⟨rfl,rfl⟩,⟨_,_,_,rfl⟩⟩⟩,hbw.trans (hb.mono (by omega)),k1.call hb,k2.call hb,hne1,hne2⟩
theorem Dt {w W:World} {D g:Nat} {m:Lm} {kind len:Int} (h:nj w W D g m kind len (.pointer (some ⟨g,0,none⟩))) (hg:af W g ((dC m.line).row (.slice none 0 0)) 136) (h0:w.heap.size<=g):
 an (W.setCell ⟨D,5,none⟩ (.func (.func 78) #[.pointer (some ⟨D,0,none⟩)] #[])) D w.heap.size m { ky m len with md:=.size } { pr D (.pointer (some ⟨g,0,none⟩)) with gl:=g,vn:=.func (.func 78) #[.pointer (some ⟨D,0,none⟩)] #[] }:=by
 have T:=bY W D 5 (.func (.func 78) #[.pointer (some ⟨D,0,none⟩)] #[]);have hgD:¬g=D:=fun e=>hg.ne h.a.k (by decide) e;exact⟨h.a.k.set 5 _,h.a.d,cB.start _ _,⟨ap.start _ _,ao.start _ _,fun _=>rfl,fun _=>⟨rfl,h0,⟨hg.touch T hgD,eC.start _ _,GO _,(hg.touch T hgD).lt⟩⟩,fun e=>(by cases e),⟨_,_,_,rfl⟩⟩⟩
theorem ba {w:World} {D n0:Nat} {m:Lm} {s:ar} {V:cU} (h:an w D n0 m s V) (i:Nat) (u:Value):Below n0 w (w.setCell ⟨D,i,none⟩ u):=h.below (V1:=V) ⟨(bY w D i u).mono (fun _ _ e=>Or.inl e),fun _ _ e=>e⟩
theorem Et (m:Lm) (kind len:Int) (w:World) (hl:m.line<0\/65536<m.line):
 Calls Tryz.prog 51 #[.agg #[.int .i64 kind,.int .i64 len],.agg #[.int .i64 m.head,.int .i64 m.fields,.int .i64 m.line,.int .i64 m.body,.int .i64 m.fold]] w fun e w'=>∃D V,e=.returned (.pointer (some ⟨D,0,none⟩))/\an w' D w.heap.size m (aK m kind len) V/\Below w.heap.size w w':=by
 have HN:=lH (uj m.line hl);have hdl:decide (0<=m.line/\m.line<=65536)=false:=dF (by omega);have hdh:(0:Int)=0:=rfl
 have hB:aK m kind len=(ky m len).wrong 1:=by
  unfold aK;simp only;rw[if_pos (by omega)];rfl
 rw[hB];clear hB hl;go_enter Tryz.func51,Tryz.ntmps51
 go_upto_region 4 with (go_at_call 68;refine(HN.out _).mono ?_;rintro e1 w1 ⟨rfl,h1⟩;subst h1)
 refine dl 4 ?_;intro W hW;have hBN:nj w W (w.heap.size+1+1) 0 m kind len (.pointer none):=by rw[hW];exact dy w _ m kind len (.pointer none) 0 (EK _ _)
 clear hW HN;have yF0:W.cell? ⟨w.heap.size,0,none⟩=some (.int .i64 kind):=hBN.f.cell 0;have yF1:W.cell? ⟨w.heap.size,1,none⟩=some (.int .i64 len):=hBN.f.cell 1;have yL0:W.cell? ⟨w.heap.size+1,0,none⟩=some (.int .i64 m.head):=hBN.l.cell 0;have yL2:W.cell? ⟨w.heap.size+1,2,none⟩=some (.int .i64 m.line):=hBN.l.cell 2;have fD:=hBN.fD;have lD:=hBN.lD;have HBN:=lH hBN;generalize w.heap.size+1+1=D at HBN hBN fD lD ⊢;have y5:W.cell? ⟨D,5,none⟩=some (.func (.func 75) #[.pointer (some ⟨D,0,none⟩)] #[]):=hBN.a.k.cell 5;have y7:W.cell? ⟨D,7,none⟩=some (.int .i64 len):=hBN.a.k.cell 7;have y11:W.cell? ⟨D,11,none⟩=some (.bool false):=hBN.a.k.cell 11;have y12:W.cell? ⟨D,12,none⟩=some (.bool false):=hBN.a.k.cell 12;have y13:W.cell? ⟨D,13,none⟩=some (.int .i64 0):=hBN.a.k.cell 13;have z5:W.frozen? ⟨D,5,none⟩=false:=hBN.a.k.froz 5;have z11:W.frozen? ⟨D,11,none⟩=false:=hBN.a.k.froz 11;have z12:W.frozen? ⟨D,12,none⟩=false:=hBN.a.k.froz 12;have z13:W.frozen? ⟨D,13,none⟩=false:=hBN.a.k.froz 13;by_cases h1:len<0
 ·have d1:decide (len<0)=true:=dT h1
  clear h1;have h13:an (W.setCell ⟨D,13,none⟩ (.int .i64 1)) D w.heap.size m { ky m len with e:=1 } (pr D (.pointer none)):=hBN.a.set 13 _ rfl rfl rfl rfl rfl rfl rfl (fun e=>(by cases e)) (fun e=>(by cases e)) (fun _=>⟨rfl,rfl⟩) ⟨_,_,_,rfl⟩;have HC:=lH (dc h13 (EN _) ⟨5,1,⟨#[]⟩⟩);have HH:=lH h13;clear hBN h13;go_wp2_with (first|(go_at_call 76;refine(bS _ _).mono ?_;simp only[hdl,hdh];rintro e2 w2 ⟨rfl,rfl⟩)|(go_at_call 80;refine HC.out.mono ?_;rintro e3 w3 ⟨rfl,vo,h3,g3⟩;have H3:=lH h3;have G3:=lH g3;clear h3 g3))
  go_ret;exact⟨D,_,rfl,H3.out,(HBN.out.b.trans (ba HBN.out.a 13 _)).trans (HH.out.below G3.out)⟩
 ·have d1:decide (len<0)=false:=dF (by omega)
  clear h1;have h13:an (W.setCell ⟨D,13,none⟩ (.int .i64 1)) D w.heap.size m { ky m len with e:=1 } (pr D (.pointer none)):=hBN.a.set 13 _ rfl rfl rfl rfl rfl rfl rfl (fun e=>(by cases e)) (fun e=>(by cases e)) (fun _=>⟨rfl,rfl⟩) ⟨_,_,_,rfl⟩;have HC:=lH (dc h13 (EN _) ⟨5,1,⟨#[]⟩⟩);have HH:=lH h13;clear hBN h13;go_wp2_with (first|(go_at_call 76;refine(bS _ _).mono ?_;simp only[hdl,hdh];rintro e2 w2 ⟨rfl,rfl⟩)|(go_at_call 80;refine HC.out.mono ?_;rintro e3 w3 ⟨rfl,vo,h3,g3⟩;have H3:=lH h3;have G3:=lH g3;clear h3 g3))
  go_ret;exact⟨D,_,rfl,H3.out,(HBN.out.b.trans (ba HBN.out.a 13 _)).trans (HH.out.below G3.out)⟩
theorem Ba (m:Lm) (kind len:Int) (w:World) (h0:0<=m.line) (h1:m.line<=65536) (hl:len<0):
 Calls Tryz.prog 51 #[.agg #[.int .i64 kind,.int .i64 len],.agg #[.int .i64 m.head,.int .i64 m.fields,.int .i64 m.line,.int .i64 m.body,.int .i64 m.fold]] w fun e w'=>∃D V,e=.returned (.pointer (some ⟨D,0,none⟩))/\an w' D w.heap.size m (aK m kind len) V/\Below w.heap.size w w':=by
 have HN:=lH (cR m.line h0 h1);have hdl:decide (0<=m.line/\m.line<=65536)=true:=dT ⟨h0,h1⟩;have hdh:(0:Int)=0:=rfl;have d1:decide (len<0)=true:=dT hl
 have hB:aK m kind len=(ky m len).wrong 1:=by
  unfold aK;simp only;rw[if_pos (by omega)];rfl
 rw[hB];clear hB h0 h1 hl;go_enter Tryz.func51,Tryz.ntmps51
 go_upto_region 4 with (go_at_call 68;refine(HN.out _).mono ?_;rintro e1 w1 ⟨rfl,h1⟩;subst h1)
 refine dl 4 ?_;intro W hW;have hBN:nj w W (w.heap.size+1+1) (w.heap.size+3) m kind len (.pointer (some ⟨w.heap.size+3,0,none⟩)):=by rw[hW];exact dy w _ m kind len (.pointer (some ⟨w.heap.size+3,0,none⟩)) (w.heap.size+3) ((EK _ _).alloc (by simp) _)
 have hg:af W (w.heap.size+3) ((dC m.line).row (.slice none 0 0)) 136:=by rw[hW];exact af.new' (by simp)
 have hg0:w.heap.size<=w.heap.size+3:=by omega
 clear hW HN;have HG:=lH hg;have HG0:=lH hg0;clear hg hg0;generalize w.heap.size+3=g at hBN HG HG0;have yF0:W.cell? ⟨w.heap.size,0,none⟩=some (.int .i64 kind):=hBN.f.cell 0;have yF1:W.cell? ⟨w.heap.size,1,none⟩=some (.int .i64 len):=hBN.f.cell 1;have yL0:W.cell? ⟨w.heap.size+1,0,none⟩=some (.int .i64 m.head):=hBN.l.cell 0;have yL2:W.cell? ⟨w.heap.size+1,2,none⟩=some (.int .i64 m.line):=hBN.l.cell 2;have fD:=hBN.fD;have lD:=hBN.lD;have HBN:=lH hBN;generalize w.heap.size+1+1=D at HBN hBN fD lD ⊢;have y5:W.cell? ⟨D,5,none⟩=some (.func (.func 75) #[.pointer (some ⟨D,0,none⟩)] #[]):=hBN.a.k.cell 5;have y7:W.cell? ⟨D,7,none⟩=some (.int .i64 len):=hBN.a.k.cell 7;have y11:W.cell? ⟨D,11,none⟩=some (.bool false):=hBN.a.k.cell 11;have y12:W.cell? ⟨D,12,none⟩=some (.bool false):=hBN.a.k.cell 12;have y13:W.cell? ⟨D,13,none⟩=some (.int .i64 0):=hBN.a.k.cell 13;have z5:W.frozen? ⟨D,5,none⟩=false:=hBN.a.k.froz 5;have z11:W.frozen? ⟨D,11,none⟩=false:=hBN.a.k.froz 11;have z12:W.frozen? ⟨D,12,none⟩=false:=hBN.a.k.froz 12;have z13:W.frozen? ⟨D,13,none⟩=false:=hBN.a.k.froz 13;have h13:an (W.setCell ⟨D,13,none⟩ (.int .i64 1)) D w.heap.size m { ky m len with e:=1 } (pr D (.pointer (some ⟨g,0,none⟩))):=hBN.a.set 13 _ rfl rfl rfl rfl rfl rfl rfl (fun e=>(by cases e)) (fun e=>(by cases e)) (fun _=>⟨rfl,rfl⟩) ⟨_,_,_,rfl⟩;have HC:=lH (dc h13 (EN _) ⟨5,1,⟨#[]⟩⟩)
 have HH:=lH h13;clear hBN h13;go_wp2_with (first|(go_at_call 76;refine(bS _ _).mono ?_;simp only[hdl,hdh];rintro e2 w2 ⟨rfl,rfl⟩)|(go_at_call 80;refine HC.out.mono ?_;rintro e3 w3 ⟨rfl,vo,h3,g3⟩;have H3:=lH h3;have G3:=lH g3;clear h3 g3))
 go_ret;exact⟨D,_,rfl,H3.out,(HBN.out.b.trans (ba HBN.out.a 13 _)).trans (HH.out.below G3.out)⟩
theorem xz (m:Lm) (kind len:Int) (w:World) (h0:0<=m.line) (h1:m.line<=65536) (hl:0<=len) (hh:m.head<0\/65536<m.head):
 Calls Tryz.prog 51 #[.agg #[.int .i64 kind,.int .i64 len],.agg #[.int .i64 m.head,.int .i64 m.fields,.int .i64 m.line,.int .i64 m.body,.int .i64 m.fold]] w fun e w'=>∃D V,e=.returned (.pointer (some ⟨D,0,none⟩))/\an w' D w.heap.size m (aK m kind len) V/\Below w.heap.size w w':=by
 have HN:=lH (cR m.line h0 h1);have hdl:decide (0<=m.line/\m.line<=65536)=true:=dT ⟨h0,h1⟩;have hdh:decide (0<=m.head/\m.head<=65536)=false:=dF (by omega);have d1:decide (len<0)=false:=dF (by omega)
 have hB:aK m kind len=(ky m len).wrong 1:=by
  unfold aK;simp only;rw[if_pos (by omega)];rfl
 rw[hB];clear hB h0 h1 hl hh;go_enter Tryz.func51,Tryz.ntmps51
 go_upto_region 4 with (go_at_call 68;refine(HN.out _).mono ?_;rintro e1 w1 ⟨rfl,h1⟩;subst h1)
 refine dl 4 ?_;intro W hW;have hBN:nj w W (w.heap.size+1+1) (w.heap.size+3) m kind len (.pointer (some ⟨w.heap.size+3,0,none⟩)):=by rw[hW];exact dy w _ m kind len (.pointer (some ⟨w.heap.size+3,0,none⟩)) (w.heap.size+3) ((EK _ _).alloc (by simp) _)
 have hg:af W (w.heap.size+3) ((dC m.line).row (.slice none 0 0)) 136:=by rw[hW];exact af.new' (by simp)
 have hg0:w.heap.size<=w.heap.size+3:=by omega
 clear hW HN;have HG:=lH hg;have HG0:=lH hg0;clear hg hg0;generalize w.heap.size+3=g at hBN HG HG0;have yF0:W.cell? ⟨w.heap.size,0,none⟩=some (.int .i64 kind):=hBN.f.cell 0;have yF1:W.cell? ⟨w.heap.size,1,none⟩=some (.int .i64 len):=hBN.f.cell 1;have yL0:W.cell? ⟨w.heap.size+1,0,none⟩=some (.int .i64 m.head):=hBN.l.cell 0;have yL2:W.cell? ⟨w.heap.size+1,2,none⟩=some (.int .i64 m.line):=hBN.l.cell 2;have fD:=hBN.fD;have lD:=hBN.lD;have HBN:=lH hBN;generalize w.heap.size+1+1=D at HBN hBN fD lD ⊢;have y5:W.cell? ⟨D,5,none⟩=some (.func (.func 75) #[.pointer (some ⟨D,0,none⟩)] #[]):=hBN.a.k.cell 5;have y7:W.cell? ⟨D,7,none⟩=some (.int .i64 len):=hBN.a.k.cell 7;have y11:W.cell? ⟨D,11,none⟩=some (.bool false):=hBN.a.k.cell 11;have y12:W.cell? ⟨D,12,none⟩=some (.bool false):=hBN.a.k.cell 12;have y13:W.cell? ⟨D,13,none⟩=some (.int .i64 0):=hBN.a.k.cell 13;have z5:W.frozen? ⟨D,5,none⟩=false:=hBN.a.k.froz 5;have z11:W.frozen? ⟨D,11,none⟩=false:=hBN.a.k.froz 11;have z12:W.frozen? ⟨D,12,none⟩=false:=hBN.a.k.froz 12;have z13:W.frozen? ⟨D,13,none⟩=false:=hBN.a.k.froz 13;have h13:an (W.setCell ⟨D,13,none⟩ (.int .i64 1)) D w.heap.size m { ky m len with e:=1 } (pr D (.pointer (some ⟨g,0,none⟩))):=hBN.a.set 13 _ rfl rfl rfl rfl rfl rfl rfl (fun e=>(by cases e)) (fun e=>(by cases e)) (fun _=>⟨rfl,rfl⟩) ⟨_,_,_,rfl⟩;have HC:=lH (dc h13 (EN _) ⟨5,1,⟨#[]⟩⟩)
 have HH:=lH h13;clear hBN h13;go_wp2_with (first|(go_at_call 76;refine(bS _ _).mono ?_;simp only[hdl,hdh];rintro e2 w2 ⟨rfl,rfl⟩)|(go_at_call 80;refine HC.out.mono ?_;rintro e3 w3 ⟨rfl,vo,h3,g3⟩;have H3:=lH h3;have G3:=lH g3;clear h3 g3))
 go_ret;exact⟨D,_,rfl,H3.out,(HBN.out.b.trans (ba HBN.out.a 13 _)).trans (HH.out.below G3.out)⟩
theorem zD (m:Lm) (kind len:Int) (w:World) (h0:0<=m.line) (h1:m.line<=65536) (hl:0<=len) (hh0:0<=m.head) (hh1:m.head<=65536) (hk:kind=0):
 Calls Tryz.prog 51 #[.agg #[.int .i64 kind,.int .i64 len],.agg #[.int .i64 m.head,.int .i64 m.fields,.int .i64 m.line,.int .i64 m.body,.int .i64 m.fold]] w fun e w'=>∃D V,e=.returned (.pointer (some ⟨D,0,none⟩))/\an w' D w.heap.size m (aK m kind len) V/\Below w.heap.size w w':=by
 have HN:=lH (cR m.line h0 h1);have hdl:decide (0<=m.line/\m.line<=65536)=true:=dT ⟨h0,h1⟩;have hdh:decide (0<=m.head/\m.head<=65536)=true:=dT ⟨hh0,hh1⟩;have d1:decide (len<0)=false:=dF (by omega);have e0:(kind==0)=true:=by simp[hk]
 have e1:(kind==1)=false:=by simp[hk]
 have e2:(kind==2)=false:=by simp[hk]
 have e3:(kind==3)=false:=by simp[hk]
 have hB:aK m kind len=(ky m len).ends:=by
  unfold aK;simp only;rw[if_neg (by omega)];rw[if_pos hk];rfl
 rw[hB];clear hB h0 h1 hl hh0 hh1 hk;go_enter Tryz.func51,Tryz.ntmps51
 go_upto_region 4 with (go_at_call 68;refine(HN.out _).mono ?_;rintro e1 w1 ⟨rfl,h1⟩;subst h1)
 refine dl 4 ?_;intro W hW;have hBN:nj w W (w.heap.size+1+1) (w.heap.size+3) m kind len (.pointer (some ⟨w.heap.size+3,0,none⟩)):=by rw[hW];exact dy w _ m kind len (.pointer (some ⟨w.heap.size+3,0,none⟩)) (w.heap.size+3) ((EK _ _).alloc (by simp) _)
 have hg:af W (w.heap.size+3) ((dC m.line).row (.slice none 0 0)) 136:=by rw[hW];exact af.new' (by simp)
 have hg0:w.heap.size<=w.heap.size+3:=by omega
 clear hW HN;have HG:=lH hg;have HG0:=lH hg0;clear hg hg0;generalize w.heap.size+3=g at hBN HG HG0;have yF0:W.cell? ⟨w.heap.size,0,none⟩=some (.int .i64 kind):=hBN.f.cell 0;have yF1:W.cell? ⟨w.heap.size,1,none⟩=some (.int .i64 len):=hBN.f.cell 1;have yL0:W.cell? ⟨w.heap.size+1,0,none⟩=some (.int .i64 m.head):=hBN.l.cell 0;have yL2:W.cell? ⟨w.heap.size+1,2,none⟩=some (.int .i64 m.line):=hBN.l.cell 2;have fD:=hBN.fD;have lD:=hBN.lD;have HBN:=lH hBN;generalize w.heap.size+1+1=D at HBN hBN fD lD ⊢;have y5:W.cell? ⟨D,5,none⟩=some (.func (.func 75) #[.pointer (some ⟨D,0,none⟩)] #[]):=hBN.a.k.cell 5;have y7:W.cell? ⟨D,7,none⟩=some (.int .i64 len):=hBN.a.k.cell 7;have y11:W.cell? ⟨D,11,none⟩=some (.bool false):=hBN.a.k.cell 11;have y12:W.cell? ⟨D,12,none⟩=some (.bool false):=hBN.a.k.cell 12;have y13:W.cell? ⟨D,13,none⟩=some (.int .i64 0):=hBN.a.k.cell 13;have z5:W.frozen? ⟨D,5,none⟩=false:=hBN.a.k.froz 5;have z11:W.frozen? ⟨D,11,none⟩=false:=hBN.a.k.froz 11;have z12:W.frozen? ⟨D,12,none⟩=false:=hBN.a.k.froz 12;have z13:W.frozen? ⟨D,13,none⟩=false:=hBN.a.k.froz 13;have h12:an (W.setCell ⟨D,12,none⟩ (.bool true)) D w.heap.size m { ky m len with over:=true } (pr D (.pointer (some ⟨g,0,none⟩))):=hBN.a.set 12 _ rfl rfl rfl rfl rfl rfl rfl (fun e=>(by cases e)) (fun e=>(by cases e)) (fun _=>⟨rfl,rfl⟩) ⟨_,_,_,rfl⟩;have HC:=lH (dc h12 (EN _) ⟨4,0,⟨#[]⟩⟩)
 have HH:=lH h12;clear hBN h12;go_wp2_with (first|(go_at_call 76;refine(bS _ _).mono ?_;simp only[hdl,hdh];rintro e2 w2 ⟨rfl,rfl⟩)|(go_at_call 80;refine HC.out.mono ?_;rintro e3 w3 ⟨rfl,vo,h3,g3⟩;have H3:=lH h3;have G3:=lH g3;have q13:w3.cell? ⟨D,13,none⟩=some (.int .i64 0):=h3.k.cell 13;clear h3 g3))
 go_ret;exact⟨D,_,rfl,H3.out,(HBN.out.b.trans (ba HBN.out.a 12 _)).trans (HH.out.below G3.out)⟩
theorem tC (m:Lm) (kind len:Int) (w:World) (h0:0<=m.line) (h1:m.line<=65536) (hl:0<=len) (hh0:0<=m.head) (hh1:m.head<=65536) (hk:kind=1) (hz:len=0):
 Calls Tryz.prog 51 #[.agg #[.int .i64 kind,.int .i64 len],.agg #[.int .i64 m.head,.int .i64 m.fields,.int .i64 m.line,.int .i64 m.body,.int .i64 m.fold]] w fun e w'=>∃D V,e=.returned (.pointer (some ⟨D,0,none⟩))/\an w' D w.heap.size m (aK m kind len) V/\Below w.heap.size w w':=by
 have HN:=lH (cR m.line h0 h1);have hdl:decide (0<=m.line/\m.line<=65536)=true:=dT ⟨h0,h1⟩;have hdh:decide (0<=m.head/\m.head<=65536)=true:=dT ⟨hh0,hh1⟩;have d1:decide (len<0)=false:=dF (by omega);have e0:(kind==0)=false:=by simp[hk]
 have e1:(kind==1)=true:=by simp[hk]
 have e2:(kind==2)=false:=by simp[hk]
 have e3:(kind==3)=false:=by simp[hk]
 have ez:(len==0)=true:=by simp[hz]
 have hB:aK m kind len=({ ky m len with md:=.sized }:ar).ends:=by
  unfold aK;simp only;rw[if_neg (by omega)];rw[if_neg (by omega),if_pos hk,if_pos hz];rfl
 rw[hB];clear hB h0 h1 hl hh0 hh1 hk hz;go_enter Tryz.func51,Tryz.ntmps51
 go_upto_region 4 with (go_at_call 68;refine(HN.out _).mono ?_;rintro e1 w1 ⟨rfl,h1⟩;subst h1)
 refine dl 4 ?_;intro W hW;have hBN:nj w W (w.heap.size+1+1) (w.heap.size+3) m kind len (.pointer (some ⟨w.heap.size+3,0,none⟩)):=by rw[hW];exact dy w _ m kind len (.pointer (some ⟨w.heap.size+3,0,none⟩)) (w.heap.size+3) ((EK _ _).alloc (by simp) _)
 have hg:af W (w.heap.size+3) ((dC m.line).row (.slice none 0 0)) 136:=by rw[hW];exact af.new' (by simp)
 have hg0:w.heap.size<=w.heap.size+3:=by omega
 clear hW HN;have HG:=lH hg;have HG0:=lH hg0;clear hg hg0;generalize w.heap.size+3=g at hBN HG HG0;have yF0:W.cell? ⟨w.heap.size,0,none⟩=some (.int .i64 kind):=hBN.f.cell 0;have yF1:W.cell? ⟨w.heap.size,1,none⟩=some (.int .i64 len):=hBN.f.cell 1;have yL0:W.cell? ⟨w.heap.size+1,0,none⟩=some (.int .i64 m.head):=hBN.l.cell 0;have yL2:W.cell? ⟨w.heap.size+1,2,none⟩=some (.int .i64 m.line):=hBN.l.cell 2;have fD:=hBN.fD;have lD:=hBN.lD;have HBN:=lH hBN;generalize w.heap.size+1+1=D at HBN hBN fD lD ⊢;have y5:W.cell? ⟨D,5,none⟩=some (.func (.func 75) #[.pointer (some ⟨D,0,none⟩)] #[]):=hBN.a.k.cell 5;have y7:W.cell? ⟨D,7,none⟩=some (.int .i64 len):=hBN.a.k.cell 7;have y11:W.cell? ⟨D,11,none⟩=some (.bool false):=hBN.a.k.cell 11;have y12:W.cell? ⟨D,12,none⟩=some (.bool false):=hBN.a.k.cell 12;have y13:W.cell? ⟨D,13,none⟩=some (.int .i64 0):=hBN.a.k.cell 13;have z5:W.frozen? ⟨D,5,none⟩=false:=hBN.a.k.froz 5;have z11:W.frozen? ⟨D,11,none⟩=false:=hBN.a.k.froz 11;have z12:W.frozen? ⟨D,12,none⟩=false:=hBN.a.k.froz 12;have z13:W.frozen? ⟨D,13,none⟩=false:=hBN.a.k.froz 13;have h5:an (W.setCell ⟨D,5,none⟩ (.func (.func 77) #[.pointer (some ⟨D,0,none⟩)] #[])) D w.heap.size m { ky m len with md:=.sized } { pr D (.pointer (some ⟨g,0,none⟩)) with vn:=.func (.func 77) #[.pointer (some ⟨D,0,none⟩)] #[] }:=hBN.a.set 5 _ rfl rfl rfl rfl rfl rfl rfl (fun _=>rfl) (fun e=>(by cases e)) (fun _=>⟨rfl,rfl⟩) ⟨_,_,_,rfl⟩
 have h12:an ((W.setCell ⟨D,5,none⟩ (.func (.func 77) #[.pointer (some ⟨D,0,none⟩)] #[])).setCell ⟨D,12,none⟩ (.bool true)) D w.heap.size m { ky m len with md:=.sized,over:=true } { pr D (.pointer (some ⟨g,0,none⟩)) with vn:=.func (.func 77) #[.pointer (some ⟨D,0,none⟩)] #[] }:=h5.set 12 _ rfl rfl rfl rfl rfl rfl rfl (fun e=>(by cases e)) (fun e=>(by cases e)) (fun _=>⟨rfl,rfl⟩) ⟨_,_,_,rfl⟩;have HC:=lH (dc h12 (EN _) ⟨4,0,⟨#[]⟩⟩);have HH:=lH h12;have H5:=lH h5;clear hBN h12 h5;go_wp2_with (first|(go_at_call 76;refine(bS _ _).mono ?_;simp only[hdl,hdh];rintro e2 w2 ⟨rfl,rfl⟩)|(go_at_call 80;refine HC.out.mono ?_;rintro e3 w3 ⟨rfl,vo,h3,g3⟩;have H3:=lH h3;have G3:=lH g3;have q13:w3.cell? ⟨D,13,none⟩=some (.int .i64 0):=h3.k.cell 13;clear h3 g3))
 go_ret;exact⟨D,_,rfl,H3.out,((HBN.out.b.trans (ba HBN.out.a 5 _)).trans (ba H5.out 12 _)).trans (HH.out.below G3.out)⟩
theorem ti (m:Lm) (kind len:Int) (w:World) (h0:0<=m.line) (h1:m.line<=65536) (hl:0<=len) (hh0:0<=m.head) (hh1:m.head<=65536) (hk:kind=1) (hz:len≠0):
 Calls Tryz.prog 51 #[.agg #[.int .i64 kind,.int .i64 len],.agg #[.int .i64 m.head,.int .i64 m.fields,.int .i64 m.line,.int .i64 m.body,.int .i64 m.fold]] w fun e w'=>∃D V,e=.returned (.pointer (some ⟨D,0,none⟩))/\an w' D w.heap.size m (aK m kind len) V/\Below w.heap.size w w':=by
 have HN:=lH (cR m.line h0 h1);have hdl:decide (0<=m.line/\m.line<=65536)=true:=dT ⟨h0,h1⟩;have hdh:decide (0<=m.head/\m.head<=65536)=true:=dT ⟨hh0,hh1⟩;have d1:decide (len<0)=false:=dF (by omega);have e0:(kind==0)=false:=by simp[hk]
 have e1:(kind==1)=true:=by simp[hk]
 have e2:(kind==2)=false:=by simp[hk]
 have e3:(kind==3)=false:=by simp[hk]
 have ez:(len==0)=false:=by simp[hz]
 have hB:aK m kind len={ ky m len with md:=.sized }:=by
  unfold aK;simp only;rw[if_neg (by omega)];rw[if_neg (by omega),if_pos hk,if_neg hz];rfl
 rw[hB];clear hB h0 h1 hl hh0 hh1 hk hz;go_enter Tryz.func51,Tryz.ntmps51
 go_upto_region 4 with (go_at_call 68;refine(HN.out _).mono ?_;rintro e1 w1 ⟨rfl,h1⟩;subst h1)
 refine dl 4 ?_;intro W hW;have hBN:nj w W (w.heap.size+1+1) (w.heap.size+3) m kind len (.pointer (some ⟨w.heap.size+3,0,none⟩)):=by rw[hW];exact dy w _ m kind len (.pointer (some ⟨w.heap.size+3,0,none⟩)) (w.heap.size+3) ((EK _ _).alloc (by simp) _)
 have hg:af W (w.heap.size+3) ((dC m.line).row (.slice none 0 0)) 136:=by rw[hW];exact af.new' (by simp)
 have hg0:w.heap.size<=w.heap.size+3:=by omega
 clear hW HN;have HG:=lH hg;have HG0:=lH hg0;clear hg hg0;generalize w.heap.size+3=g at hBN HG HG0;have yF0:W.cell? ⟨w.heap.size,0,none⟩=some (.int .i64 kind):=hBN.f.cell 0;have yF1:W.cell? ⟨w.heap.size,1,none⟩=some (.int .i64 len):=hBN.f.cell 1;have yL0:W.cell? ⟨w.heap.size+1,0,none⟩=some (.int .i64 m.head):=hBN.l.cell 0;have yL2:W.cell? ⟨w.heap.size+1,2,none⟩=some (.int .i64 m.line):=hBN.l.cell 2;have fD:=hBN.fD;have lD:=hBN.lD;have HBN:=lH hBN;generalize w.heap.size+1+1=D at HBN hBN fD lD ⊢;have y5:W.cell? ⟨D,5,none⟩=some (.func (.func 75) #[.pointer (some ⟨D,0,none⟩)] #[]):=hBN.a.k.cell 5;have y7:W.cell? ⟨D,7,none⟩=some (.int .i64 len):=hBN.a.k.cell 7;have y11:W.cell? ⟨D,11,none⟩=some (.bool false):=hBN.a.k.cell 11;have y12:W.cell? ⟨D,12,none⟩=some (.bool false):=hBN.a.k.cell 12;have y13:W.cell? ⟨D,13,none⟩=some (.int .i64 0):=hBN.a.k.cell 13;have z5:W.frozen? ⟨D,5,none⟩=false:=hBN.a.k.froz 5;have z11:W.frozen? ⟨D,11,none⟩=false:=hBN.a.k.froz 11;have z12:W.frozen? ⟨D,12,none⟩=false:=hBN.a.k.froz 12;have z13:W.frozen? ⟨D,13,none⟩=false:=hBN.a.k.froz 13;have h5:an (W.setCell ⟨D,5,none⟩ (.func (.func 77) #[.pointer (some ⟨D,0,none⟩)] #[])) D w.heap.size m { ky m len with md:=.sized } { pr D (.pointer (some ⟨g,0,none⟩)) with vn:=.func (.func 77) #[.pointer (some ⟨D,0,none⟩)] #[] }:=hBN.a.set 5 _ rfl rfl rfl rfl rfl rfl rfl (fun _=>rfl) (fun e=>(by cases e)) (fun _=>⟨rfl,rfl⟩) ⟨_,_,_,rfl⟩
 have h12:an ((W.setCell ⟨D,5,none⟩ (.func (.func 77) #[.pointer (some ⟨D,0,none⟩)] #[])).setCell ⟨D,12,none⟩ (.bool false)) D w.heap.size m { ky m len with md:=.sized } { pr D (.pointer (some ⟨g,0,none⟩)) with vn:=.func (.func 77) #[.pointer (some ⟨D,0,none⟩)] #[] }:=h5.set 12 _ rfl rfl rfl rfl rfl rfl rfl (fun _=>rfl) (fun e=>(by cases e)) (fun _=>⟨rfl,rfl⟩) ⟨_,_,_,rfl⟩;have HH:=lH h12;have H5:=lH h5;clear hBN h12 h5;go_wp2_with (go_at_call 76;refine(bS _ _).mono ?_;simp only[hdl,hdh];rintro e2 w2 ⟨rfl,rfl⟩)
 go_ret;exact⟨D,_,rfl,HH.out,(HBN.out.b.trans (ba HBN.out.a 5 _)).trans (ba H5.out 12 _)⟩
theorem rx (m:Lm) (kind len:Int) (w:World) (h0:0<=m.line) (h1:m.line<=65536) (hl:0<=len) (hh0:0<=m.head) (hh1:m.head<=65536) (hk:kind=2):
 Calls Tryz.prog 51 #[.agg #[.int .i64 kind,.int .i64 len],.agg #[.int .i64 m.head,.int .i64 m.fields,.int .i64 m.line,.int .i64 m.body,.int .i64 m.fold]] w fun e w'=>∃D V,e=.returned (.pointer (some ⟨D,0,none⟩))/\an w' D w.heap.size m (aK m kind len) V/\Below w.heap.size w w':=by
 have HN:=lH (cR m.line h0 h1);have hdl:decide (0<=m.line/\m.line<=65536)=true:=dT ⟨h0,h1⟩;have hdh:decide (0<=m.head/\m.head<=65536)=true:=dT ⟨hh0,hh1⟩;have d1:decide (len<0)=false:=dF (by omega);have e0:(kind==0)=false:=by simp[hk]
 have e1:(kind==1)=false:=by simp[hk]
 have e2:(kind==2)=true:=by simp[hk]
 have e3:(kind==3)=false:=by simp[hk]
 have hB:aK m kind len={ ky m len with md:=.size }:=by
  unfold aK;simp only;rw[if_neg (by omega)];rw[if_neg (by omega),if_neg (by omega),if_pos hk];rfl
 rw[hB];clear hB h0 h1 hl hh0 hh1 hk;go_enter Tryz.func51,Tryz.ntmps51
 go_upto_region 4 with (go_at_call 68;refine(HN.out _).mono ?_;rintro e1 w1 ⟨rfl,h1⟩;subst h1)
 refine dl 4 ?_;intro W hW;have hBN:nj w W (w.heap.size+1+1) (w.heap.size+3) m kind len (.pointer (some ⟨w.heap.size+3,0,none⟩)):=by rw[hW];exact dy w _ m kind len (.pointer (some ⟨w.heap.size+3,0,none⟩)) (w.heap.size+3) ((EK _ _).alloc (by simp) _)
 have hg:af W (w.heap.size+3) ((dC m.line).row (.slice none 0 0)) 136:=by rw[hW];exact af.new' (by simp)
 have hg0:w.heap.size<=w.heap.size+3:=by omega
 clear hW HN;have HG:=lH hg;have HG0:=lH hg0;clear hg hg0;generalize w.heap.size+3=g at hBN HG HG0;have yF0:W.cell? ⟨w.heap.size,0,none⟩=some (.int .i64 kind):=hBN.f.cell 0;have yF1:W.cell? ⟨w.heap.size,1,none⟩=some (.int .i64 len):=hBN.f.cell 1;have yL0:W.cell? ⟨w.heap.size+1,0,none⟩=some (.int .i64 m.head):=hBN.l.cell 0;have yL2:W.cell? ⟨w.heap.size+1,2,none⟩=some (.int .i64 m.line):=hBN.l.cell 2;have fD:=hBN.fD;have lD:=hBN.lD;have HBN:=lH hBN;generalize w.heap.size+1+1=D at HBN hBN fD lD ⊢;have y5:W.cell? ⟨D,5,none⟩=some (.func (.func 75) #[.pointer (some ⟨D,0,none⟩)] #[]):=hBN.a.k.cell 5;have y7:W.cell? ⟨D,7,none⟩=some (.int .i64 len):=hBN.a.k.cell 7;have y11:W.cell? ⟨D,11,none⟩=some (.bool false):=hBN.a.k.cell 11;have y12:W.cell? ⟨D,12,none⟩=some (.bool false):=hBN.a.k.cell 12;have y13:W.cell? ⟨D,13,none⟩=some (.int .i64 0):=hBN.a.k.cell 13;have z5:W.frozen? ⟨D,5,none⟩=false:=hBN.a.k.froz 5;have z11:W.frozen? ⟨D,11,none⟩=false:=hBN.a.k.froz 11;have z12:W.frozen? ⟨D,12,none⟩=false:=hBN.a.k.froz 12;have z13:W.frozen? ⟨D,13,none⟩=false:=hBN.a.k.froz 13;have HH:=lH (Dt hBN HG.out HG0.out);clear hBN;go_wp2_with (go_at_call 76;refine(bS _ _).mono ?_;simp only[hdl,hdh];rintro e2 w2 ⟨rfl,rfl⟩)
 go_ret;exact⟨D,_,rfl,HH.out,HBN.out.b.trans (ba HBN.out.a 5 _)⟩
theorem ve (m:Lm) (kind len:Int) (w:World) (h0:0<=m.line) (h1:m.line<=65536) (hl:0<=len) (hh0:0<=m.head) (hh1:m.head<=65536) (hk:kind=3):
 Calls Tryz.prog 51 #[.agg #[.int .i64 kind,.int .i64 len],.agg #[.int .i64 m.head,.int .i64 m.fields,.int .i64 m.line,.int .i64 m.body,.int .i64 m.fold]] w fun e w'=>∃D V,e=.returned (.pointer (some ⟨D,0,none⟩))/\an w' D w.heap.size m (aK m kind len) V/\Below w.heap.size w w':=by
 have HN:=lH (cR m.line h0 h1);have hdl:decide (0<=m.line/\m.line<=65536)=true:=dT ⟨h0,h1⟩;have hdh:decide (0<=m.head/\m.head<=65536)=true:=dT ⟨hh0,hh1⟩;have d1:decide (len<0)=false:=dF (by omega);have e0:(kind==0)=false:=by simp[hk]
 have e1:(kind==1)=false:=by simp[hk]
 have e2:(kind==2)=false:=by simp[hk]
 have e3:(kind==3)=true:=by simp[hk]
 have hB:aK m kind len={ ky m len with md:=.rest,till:=true }:=by
  unfold aK;simp only;rw[if_neg (by omega)];rw[if_neg (by omega),if_neg (by omega),if_neg (by omega),if_pos hk];rfl
 rw[hB];clear hB h0 h1 hl hh0 hh1 hk;go_enter Tryz.func51,Tryz.ntmps51
 go_upto_region 4 with (go_at_call 68;refine(HN.out _).mono ?_;rintro e1 w1 ⟨rfl,h1⟩;subst h1)
 refine dl 4 ?_;intro W hW;have hBN:nj w W (w.heap.size+1+1) (w.heap.size+3) m kind len (.pointer (some ⟨w.heap.size+3,0,none⟩)):=by rw[hW];exact dy w _ m kind len (.pointer (some ⟨w.heap.size+3,0,none⟩)) (w.heap.size+3) ((EK _ _).alloc (by simp) _)
 have hg:af W (w.heap.size+3) ((dC m.line).row (.slice none 0 0)) 136:=by rw[hW];exact af.new' (by simp)
 have hg0:w.heap.size<=w.heap.size+3:=by omega
 clear hW HN;have HG:=lH hg;have HG0:=lH hg0;clear hg hg0;generalize w.heap.size+3=g at hBN HG HG0;have yF0:W.cell? ⟨w.heap.size,0,none⟩=some (.int .i64 kind):=hBN.f.cell 0;have yF1:W.cell? ⟨w.heap.size,1,none⟩=some (.int .i64 len):=hBN.f.cell 1;have yL0:W.cell? ⟨w.heap.size+1,0,none⟩=some (.int .i64 m.head):=hBN.l.cell 0;have yL2:W.cell? ⟨w.heap.size+1,2,none⟩=some (.int .i64 m.line):=hBN.l.cell 2;have fD:=hBN.fD;have lD:=hBN.lD;have HBN:=lH hBN;generalize w.heap.size+1+1=D at HBN hBN fD lD ⊢;have y5:W.cell? ⟨D,5,none⟩=some (.func (.func 75) #[.pointer (some ⟨D,0,none⟩)] #[]):=hBN.a.k.cell 5;have y7:W.cell? ⟨D,7,none⟩=some (.int .i64 len):=hBN.a.k.cell 7;have y11:W.cell? ⟨D,11,none⟩=some (.bool false):=hBN.a.k.cell 11;have y12:W.cell? ⟨D,12,none⟩=some (.bool false):=hBN.a.k.cell 12;have y13:W.cell? ⟨D,13,none⟩=some (.int .i64 0):=hBN.a.k.cell 13;have z5:W.frozen? ⟨D,5,none⟩=false:=hBN.a.k.froz 5;have z11:W.frozen? ⟨D,11,none⟩=false:=hBN.a.k.froz 11;have z12:W.frozen? ⟨D,12,none⟩=false:=hBN.a.k.froz 12;have z13:W.frozen? ⟨D,13,none⟩=false:=hBN.a.k.froz 13;have h5:an (W.setCell ⟨D,5,none⟩ (.func (.func 79) #[.pointer (some ⟨D,0,none⟩)] #[])) D w.heap.size m { ky m len with md:=.rest } { pr D (.pointer (some ⟨g,0,none⟩)) with vn:=.func (.func 79) #[.pointer (some ⟨D,0,none⟩)] #[] }:=hBN.a.set 5 _ rfl rfl rfl rfl rfl rfl rfl (fun _=>rfl) (fun e=>(by cases e)) (fun _=>⟨rfl,rfl⟩) ⟨_,_,_,rfl⟩
 have h12:an ((W.setCell ⟨D,5,none⟩ (.func (.func 79) #[.pointer (some ⟨D,0,none⟩)] #[])).setCell ⟨D,11,none⟩ (.bool true)) D w.heap.size m { ky m len with md:=.rest,till:=true } { pr D (.pointer (some ⟨g,0,none⟩)) with vn:=.func (.func 79) #[.pointer (some ⟨D,0,none⟩)] #[] }:=h5.set 11 _ rfl rfl rfl rfl rfl rfl rfl (fun _=>rfl) (fun e=>(by cases e)) (fun _=>⟨rfl,rfl⟩) ⟨_,_,_,rfl⟩;have HH:=lH h12;have H5:=lH h5;clear hBN h12 h5;go_wp2_with (go_at_call 76;refine(bS _ _).mono ?_;simp only[hdl,hdh];rintro e2 w2 ⟨rfl,rfl⟩)
 go_ret;exact⟨D,_,rfl,HH.out,(HBN.out.b.trans (ba HBN.out.a 5 _)).trans (ba H5.out 11 _)⟩
theorem yX (m:Lm) (kind len:Int) (w:World) (h0:0<=m.line) (h1:m.line<=65536) (hl:0<=len) (hh0:0<=m.head) (hh1:m.head<=65536) (hk:kind≠0/\kind≠1/\kind≠2/\kind≠3):
 Calls Tryz.prog 51 #[.agg #[.int .i64 kind,.int .i64 len],.agg #[.int .i64 m.head,.int .i64 m.fields,.int .i64 m.line,.int .i64 m.body,.int .i64 m.fold]] w fun e w'=>∃D V,e=.returned (.pointer (some ⟨D,0,none⟩))/\an w' D w.heap.size m (aK m kind len) V/\Below w.heap.size w w':=by
 have HN:=lH (cR m.line h0 h1);have hdl:decide (0<=m.line/\m.line<=65536)=true:=dT ⟨h0,h1⟩;have hdh:decide (0<=m.head/\m.head<=65536)=true:=dT ⟨hh0,hh1⟩;have d1:decide (len<0)=false:=dF (by omega);have e0:(kind==0)=false:=by simp[hk]
 have e1:(kind==1)=false:=by simp[hk]
 have e2:(kind==2)=false:=by simp[hk]
 have e3:(kind==3)=false:=by simp[hk]
 have hB:aK m kind len=(ky m len).wrong 1:=by
  unfold aK;simp only;rw[if_neg (by omega)];rw[if_neg (by omega),if_neg (by omega),if_neg (by omega),if_neg (by omega)];rfl
 rw[hB];clear hB h0 h1 hl hh0 hh1 hk;go_enter Tryz.func51,Tryz.ntmps51
 go_upto_region 4 with (go_at_call 68;refine(HN.out _).mono ?_;rintro e1 w1 ⟨rfl,h1⟩;subst h1)
 refine dl 4 ?_;intro W hW;have hBN:nj w W (w.heap.size+1+1) (w.heap.size+3) m kind len (.pointer (some ⟨w.heap.size+3,0,none⟩)):=by rw[hW];exact dy w _ m kind len (.pointer (some ⟨w.heap.size+3,0,none⟩)) (w.heap.size+3) ((EK _ _).alloc (by simp) _)
 have hg:af W (w.heap.size+3) ((dC m.line).row (.slice none 0 0)) 136:=by rw[hW];exact af.new' (by simp)
 have hg0:w.heap.size<=w.heap.size+3:=by omega
 clear hW HN;have HG:=lH hg;have HG0:=lH hg0;clear hg hg0;generalize w.heap.size+3=g at hBN HG HG0;have yF0:W.cell? ⟨w.heap.size,0,none⟩=some (.int .i64 kind):=hBN.f.cell 0;have yF1:W.cell? ⟨w.heap.size,1,none⟩=some (.int .i64 len):=hBN.f.cell 1;have yL0:W.cell? ⟨w.heap.size+1,0,none⟩=some (.int .i64 m.head):=hBN.l.cell 0;have yL2:W.cell? ⟨w.heap.size+1,2,none⟩=some (.int .i64 m.line):=hBN.l.cell 2;have fD:=hBN.fD;have lD:=hBN.lD;have HBN:=lH hBN;generalize w.heap.size+1+1=D at HBN hBN fD lD ⊢;have y5:W.cell? ⟨D,5,none⟩=some (.func (.func 75) #[.pointer (some ⟨D,0,none⟩)] #[]):=hBN.a.k.cell 5;have y7:W.cell? ⟨D,7,none⟩=some (.int .i64 len):=hBN.a.k.cell 7;have y11:W.cell? ⟨D,11,none⟩=some (.bool false):=hBN.a.k.cell 11;have y12:W.cell? ⟨D,12,none⟩=some (.bool false):=hBN.a.k.cell 12;have y13:W.cell? ⟨D,13,none⟩=some (.int .i64 0):=hBN.a.k.cell 13;have z5:W.frozen? ⟨D,5,none⟩=false:=hBN.a.k.froz 5;have z11:W.frozen? ⟨D,11,none⟩=false:=hBN.a.k.froz 11;have z12:W.frozen? ⟨D,12,none⟩=false:=hBN.a.k.froz 12;have z13:W.frozen? ⟨D,13,none⟩=false:=hBN.a.k.froz 13;have h13:an (W.setCell ⟨D,13,none⟩ (.int .i64 1)) D w.heap.size m { ky m len with e:=1 } (pr D (.pointer (some ⟨g,0,none⟩))):=hBN.a.set 13 _ rfl rfl rfl rfl rfl rfl rfl (fun e=>(by cases e)) (fun e=>(by cases e)) (fun _=>⟨rfl,rfl⟩) ⟨_,_,_,rfl⟩;have HC:=lH (dc h13 (EN _) ⟨5,1,⟨#[]⟩⟩)
 have HH:=lH h13;clear hBN h13;go_wp2_with (first|(go_at_call 76;refine(bS _ _).mono ?_;simp only[hdl,hdh];rintro e2 w2 ⟨rfl,rfl⟩)|(go_at_call 80;refine HC.out.mono ?_;rintro e3 w3 ⟨rfl,vo,h3,g3⟩;have H3:=lH h3;have G3:=lH g3;clear h3 g3))
 go_ret;exact⟨D,_,rfl,H3.out,(HBN.out.b.trans (ba HBN.out.a 13 _)).trans (HH.out.below G3.out)⟩
theorem zR (m:Lm) (kind len:Int) (w:World):
 Calls Tryz.prog 51 #[.agg #[.int .i64 kind,.int .i64 len],.agg #[.int .i64 m.head,.int .i64 m.fields,.int .i64 m.line,.int .i64 m.body,.int .i64 m.fold]] w fun e w'=>∃D V,e=.returned (.pointer (some ⟨D,0,none⟩))/\an w' D w.heap.size m (aK m kind len) V/\Below w.heap.size w w':=by
 by_cases h0:m.line<0\/65536<m.line
 ·exact Et m kind len w h0
 have l0:0<=m.line:=by omega
 have l1:m.line<=65536:=by omega
 by_cases h1:len<0
 ·exact Ba m kind len w l0 l1 h1
 have hl:0<=len:=by omega
 by_cases h2:m.head<0\/65536<m.head
 ·exact xz m kind len w l0 l1 hl h2
 have hh0:0<=m.head:=by omega
 have hh1:m.head<=65536:=by omega
 by_cases k0:kind=0
 ·exact zD m kind len w l0 l1 hl hh0 hh1 k0
 by_cases k1:kind=1
 ·by_cases hz:len=0
  ·exact tC m kind len w l0 l1 hl hh0 hh1 k1 hz
  ·exact ti m kind len w l0 l1 hl hh0 hh1 k1 hz
 by_cases k2:kind=2
 ·exact rx m kind len w l0 l1 hl hh0 hh1 k2
 by_cases k3:kind=3
 ·exact ve m kind len w l0 l1 hl hh0 hh1 k3
 exact yX m kind len w l0 l1 hl hh0 hh1 ⟨k0,k1,k2,k3⟩
end Go.Proofs.YthjbodpeckebiaaGreatDoor
/- Texts packed for one claim, 29 of 48: BdI BdJ BdK BdO BdL BdM RbP BdN. -/
import Derived.Test.YthjbodpeckebiaaGreatDoorRdnQ21
import Derived.Test.YthjbodpeckebiaaGreatDoorRdnQ28
import Derived.Test.YthjbodpeckebiaaGreatDoorRdnQ20
import Derived.Test.YthjbodpeckebiaaGreatDoorRdnQ13
import Derived.Deep.Cut
set_option maxRecDepth 100000
set_option maxHeartbeats 16000000
set_option linter.unusedSimpArgs false
set_option linter.unusedVariables false
-- BdI
namespace Go.Proofs.YthjbodpeckebiaaGreatDoor
open Go.RowKit
theorem eQ:∀(l:List UInt8) (s:dx),s.e=0->s.whole=false->(ag l s).1.e≠0->(ag l s).1.whole=false
 | [],s,he,_,h=>absurd he h
 | c :: r,s,he,hw,h=>by
   rw[ag,if_neg (by rw[hw,he];simp)] at h ⊢;by_cases h2:(aW s c).2=0
   ·rw[if_pos h2] at h ⊢
    cases hw2:(aW s c).1.whole with
    | true=>exact absurd (uF (fun q:dx×Nat=>q.1.e) (cw r { (aW s c).1 with e:=0 } (Or.inl hw2))) h
    | false=>exact eQ r _ rfl hw2 h
   ·rw[if_neg h2]
    show (aW s c).1.whole=false;unfold aW at h2 ⊢;split
    ·exact hw
    ·rename_i h3
     rw[if_neg h3] at h2;split
     ·exact hw
     ·rename_i h4
      rw[if_neg h4] at h2;split<;>rename_i h5
      ·rw[if_pos h5] at h2;exact absurd rfl h2
      ·rw[if_neg h5] at h2
       split<;>rename_i h6
       ·rw[if_pos h6] at h2;exact absurd rfl h2
       ·rw[if_neg h6] at h2;exact absurd rfl h2
theorem ah.ofLn {w:World} {D n0:Nat} {m:Lm} {s:am} {V:bh} (h:ah w D n0 m s V) (hl:s.lined=true):bZ w (mb V.gl V.vl) [136,5]:=fun j hj=>by
 rcases hj with rfl|hj
 ·exact⟨_,_,vj,(h.r.l hl).l.b⟩
 ·obtain⟨_,cs,hb⟩:=aN (h.r.l hl).l.o j hj
  exact⟨_,_,List.mem_cons_of_mem _ vj,hb⟩
theorem cX.lined {w w1:World} {D:Nat} {md:Md} {v:Value} (h:cX w D md v) (hm:md.lined=true):cX w1 D md v:=by
 cases md<;>first|exact h|cases hm
theorem ah.fed {w w1:World} {D n0:Nat} {m:Lm} {s:am} {V:bh} (h:ah w D n0 m s V) (hl:s.lined=true) {v':Value} {ln':dx} (hat:bm w1 V.gl (V.gl+1) v' ln') (t:aa (mb V.gl V.vl) w w1):ah w1 D n0 m { s with ln:=ln' } { V with vl:=v' }:=by
 have hP:=h.ofLn hl;have hl':(s.opens&&s.md.lined)=true:=hl;rw[ux] at hl';exact⟨h.k.touch t (hP.not h.k (by decide)),h.d,ab h.o t (hP.own h.o (by decide)),⟨ab h.r.a t (hP.own h.r.a (by decide)),ab h.r.t t (hP.own h.r.t (by decide)),fun e=>(h.r.n e).lined hl'.2,fun _=>⟨(h.r.l hl).p,(h.r.l hl).n,hat⟩,fun e=>absurd (show s.lined=false from e) (by rw[hl];decide),h.r.f⟩⟩
theorem ap.fed {w w1:World} {D:Nat} {V:bh} {v':Value} (t:aa (mb V.gl V.vl) w w1) (hv:v'.ownBlock=V.vl.ownBlock\/∀k,v'.ownBlock=some k->w.heap.size<=k):ap w w1 D V { V with vl:=v' }:=by
 refine⟨t.mono (fun j _ e=>?_),fun j hj e=>?_⟩
 ·rcases e with e|e
  ·exact Or.inr (Or.inr (Or.inr (Or.inl e)))
  ·exact Or.inr (Or.inr (Or.inr (Or.inr e)))
 ·rcases e with e|e|e|e|e
  ·exact Or.inl e
  ·exact Or.inr (Or.inl e)
  ·exact Or.inr (Or.inr (Or.inl e))
  ·exact Or.inr (Or.inr (Or.inr (Or.inl e)))
  ·rcases hv with hv|hv
   ·exact Or.inr (Or.inr (Or.inr (Or.inr (hv▸e))))
   ·have:=hv j e
    omega
theorem bm.shut {w w1:World} {D n0:Nat} {m:Lm} {s:am} {V V1:bh} (h:ah w D n0 m s V) (g:ap w w1 D (V.shut D) V1) {gl B:Nat} {v:Value} {ln:dx} (hat:bm w gl B v ln):bm w1 gl B v ln:=by
 have hP:bZ w (fS D (V.shut D)) [117,80,9]:=fun j hj=>by
  rcases hj with rfl|hj|hj|hj|hj
  ·exact⟨_,_,by decide,h.k⟩
  ·obtain⟨_,cs,hb⟩:=aN h.o j hj
   exact⟨_,_,by decide,hb⟩
  ·obtain⟨_,cs,hb⟩:=aN h.r.a j hj
   exact⟨_,_,by decide,hb⟩
  ·exact⟨_,_,by decide,(show j=D from hj)▸h.k⟩
  ·cases hj
 exact hat.touch g.t (hP.not hat.b (by decide)) (hP.own hat.o (by decide))
theorem ip {w:World} {D n0:Nat} {m:Lm} {s:am} {V:bh} (h:ah w D n0 m s V) (hl:s.out.length<=1000000) (hld:s.lined=true) (hok:eB s.ln) (x:ByteArray) (hx:x.size<=1000000):
 Calls Tryz.prog 94 #[.pointer (some ⟨D,0,none⟩),.string x] w fun e w'=>e=.returned (.tuple #[.int .i64 (s.whole x.data.toList).2.1,.bool (s.whole x.data.toList).2.2])/\∃V',ah w' D n0 m (s.whole x.data.toList).1 V'/\ap w w' D V V':=by
 obtain⟨R,hR⟩:∃R,R=ag x.data.toList s.ln:=⟨_,rfl⟩;have y8:w.cell? ⟨D,8,none⟩=some (.pointer (some ⟨V.gl,0,none⟩)):=by rw[<-(h.r.l hld).p];exact h.k.cell 8
 have HF:=lH (jN (h.r.l hld).l hok x hx);rw[<-hR] at HF;have hw:s.whole x.data.toList=(if R.1.e=0 then { s with ln:=R.1 } else ({ s with ln:=R.1 }:am).wrong R.1.e,R.2,R.1.whole):=by rw[hR];rfl
 rw[hw];have H:=lH h;have HL:=lH hl;have HD:=lH hld;have HP:=lH ((h.r.l hld).p);clear h hl hld hok hw hR;by_cases hz:R.1.e=0
 ·rw[if_pos hz]
  rw[hz] at HF;go_enter Tryz.func94,Tryz.ntmps94
  go_wp2_with (first|(go_at_call 69;refine HF.out.mono ?_;rintro e1 w1 ⟨rfl,v1,h1,t1,b1⟩;have A1:=lH (H.out.fed HD.out h1 t1);have G1:=lH (ap.fed (V:=V) (D:=D) t1 b1);have y8b:w1.cell? ⟨D,8,none⟩=some (.pointer (some ⟨V.gl,0,none⟩)):=(A1.out.k.cell 8).trans (uF some HP.out);have H1:=lH h1;clear h1 t1 b1)|(go_at_call 70;refine(dD H1.out).mono ?_;rintro e2 w2 ⟨rfl,rfl⟩))
  go_ret2
  exact⟨rfl,_,A1.out,G1.out⟩
 ·rw[if_neg hz]
  have hz2:(R.1.e != 0)=true:=by rw[uI];exact hz
  have hz3:(R.1.e==0)=false:=by rw[tT];exact hz
  go_enter Tryz.func94,Tryz.ntmps94
  go_wp2_with (first|(go_at_call 69;refine HF.out.mono ?_;rintro e1 w1 ⟨rfl,v1,h1,t1,b1⟩;have A1:=lH (H.out.fed HD.out h1 t1);have G1:=lH (ap.fed (V:=V) (D:=D) t1 b1);have H1:=lH h1;clear h1 t1 b1)|(go_at_call 67;refine(gn A1.out HL.out _ hz).mono ?_;rintro e2 w2 ⟨rfl,vo,h2,g2⟩;have y8b:w2.cell? ⟨D,8,none⟩=some (.pointer (some ⟨V.gl,0,none⟩)):=(h2.k.cell 8).trans (uF some HP.out);have H2:=lH (bm.shut A1.out g2 H1.out);have A2:=lH h2;have G2:=lH g2.unshut;clear h2 g2)|(go_at_call 70;refine(dD H2.out).mono ?_;rintro e3 w3 ⟨rfl,rfl⟩))
  go_ret2
  exact⟨rfl,_,A2.out,G1.out.trans G2.out⟩
end Go.Proofs.YthjbodpeckebiaaGreatDoor
-- BdJ
namespace Go.Proofs.YthjbodpeckebiaaGreatDoor
open Go.RowKit
theorem dA (l:List UInt8):0<=(aQ l).1/\(aQ l).1<=2147483647/\0<=(aQ l).2/\(aQ l).2<=5:=by
 have hn:∀l,0<=(al l 16 2147483647).1/\(al l 16 2147483647).1<=2147483647/\0<=(al l 16 2147483647).2/\(al l 16 2147483647).2<=5:=fun l=>by
  unfold al;split
  ·decide
  ·split
   ·decide
   ·split
    ·rename_i h1 h2 h3
     exact⟨ks (by decide) l (by simpa using h2),h3,Int.le_refl 0,(by decide:(0:Int)<=5)⟩
    ·decide
 rw[jx];split
 ·decide
 ·split
  ·decide
  ·exact hn _
def am.read (s:am) (L:dx):am:={ s with ln:={ L with line:=[],whole:=false } }
theorem ii {m:Lm} {s:am} {x:List UInt8} (hm:s.md=.size):an m s x=(if (s.whole x).2.2=false then ((s.whole x).1,(s.whole x).2.1)
 else (if (aQ (s.whole x).1.ln.line).2≠0 then ((s.whole x).1.read (s.whole x).1.ln).wrong (aQ (s.whole x).1.ln.line).2 else if (aQ (s.whole x).1.ln.line).1=0 then { (s.whole x).1.read (s.whole x).1.ln with ln:=eI m.head,md:=.trailer } else { (((s.whole x).1.read (s.whole x).1.ln).put ⟨2,(aQ (s.whole x).1.ln.line).1,⟨#[]⟩⟩) with left:=(aQ (s.whole x).1.ln.line).1,md:=.data },(s.whole x).2.1)):=by
 unfold an;rw[hm];rfl
theorem fO {s:am} {x:List UInt8} (he:s.ln.e=0) (hw:s.ln.whole=false) (h:(s.whole x).2.2=true):(s.whole x).1={ s with ln:=(ag x s.ln).1 }/\(s.whole x).1.ln.whole=true:=by
 have h1:(ag x s.ln).1.whole=true:=h
 have h2:(ag x s.ln).1.e=0:=by
  by_cases h3:(ag x s.ln).1.e=0
  ·exact h3
  ·have:=eQ x s.ln he hw h3
   rw[h1] at this;cases this
 have h4:(s.whole x).1={ s with ln:=(ag x s.ln).1 }:=by
  unfold am.whole;simp only;rw[if_pos h2]
 exact⟨h4,by rw[h4];exact h1⟩
theorem bD {w w1:World} {g:Nat} {v:Value} (t:aa (fun j=>j=g) w w1):aa (mb g v) w w1:=t.mono (fun _ _ e=>Or.inl e)
theorem nX {w:World} {D n0:Nat} {m:Lm} {s:am} {V:bh} (h:ah w D n0 m s V) {c:Int} (_ho:s.opens=true):
 ah ((w.setCell ⟨D,7,none⟩ (.int .i64 c)).setCell ⟨D,5,none⟩ (.func (.func 97) #[.pointer (some ⟨D,0,none⟩)] #[])) D n0 m { s with left:=c,md:=.data } { V.shut D with vn:=.func (.func 97) #[.pointer (some ⟨D,0,none⟩)] #[] }/\
 ap w ((w.setCell ⟨D,7,none⟩ (.int .i64 c)).setCell ⟨D,5,none⟩ (.func (.func 97) #[.pointer (some ⟨D,0,none⟩)] #[])) D V { V.shut D with vn:=.func (.func 97) #[.pointer (some ⟨D,0,none⟩)] #[] }:=by
 have T:=(aO w D 7 (.int .i64 c)).trans (aO (w.setCell ⟨D,7,none⟩ (.int .i64 c)) D 5 (.func (.func 97) #[.pointer (some ⟨D,0,none⟩)] #[]));refine⟨⟨(h.k.set 7 _).set 5 _,h.d,ab h.o T (fun k hk e=>by obtain⟨_,cs,hb⟩:=aN h.o k hk;exact h.k.ne hb (by decide) e.symm),⟨ab h.r.a T (h.ofD.own h.r.a (by decide)),ab h.r.t T (h.ofD.own h.r.t (by decide)),fun _=>rfl,fun e=>?_,fun _=>⟨rfl,rfl⟩,⟨_,_,_,rfl⟩⟩⟩,⟨T.mono (fun _ _ e=>Or.inl e),fun _ _ e=>(show fS D (V.shut D) _ from e).shut⟩⟩;simp[am.lined,Md.lined] at e
theorem ox {w:World} {D n0:Nat} {m:Lm} {s:am} {V:bh} (h:ah w D n0 m s V) (hl:s.out.length<=999998) (ho:s.opens=true) (hm:s.md=.size) (hok:eB s.ln) (he:s.ln.e=0) (hw:s.ln.whole=false) (hh0:0<=m.head) (hh1:m.head<=65536) (x:ByteArray) (hx:x.size<=1000000):
 Calls Tryz.prog 78 #[.pointer (some ⟨D,0,none⟩),.string x] w fun e w'=>e=.returned (.int .i64 (an m s x.data.toList).2)/\∃V',ah w' D n0 m (an m s x.data.toList).1 V'/\ap w w' D V V':=by
 have hld:s.lined=true:=by unfold am.lined;rw[ho,hm];rfl
 have HC:=lH (ip h (by omega) hld hok x hx);rw[ii hm];cases hwh:(s.whole x.data.toList).2.2 with
 | false=>
   rw[if_pos rfl];rw[hwh] at HC;clear h hl ho hm hok he hw hld;go_enter Tryz.func78,Tryz.ntmps78
   go_wp2_with (go_at_call 94;refine HC.out.mono ?_;rintro e1 w1 ⟨rfl,V1,h1,g1⟩;have H1:=lH h1;have G1:=lH g1;clear h1 g1)
   go_ret;exact⟨rfl,V1,H1.out,G1.out⟩
 | true=>
   rw[if_neg (by decide)];rw[hwh] at HC;obtain⟨hq1,hq2⟩:=fO (x:=x.data.toList) he hw hwh;have hLok:eB (s.whole x.data.toList).1.ln:=by rw[hq1];exact dk _ _ hok
   have hso:(s.whole x.data.toList).1.out=s.out:=by rw[hq1]
   have hso2:(s.whole x.data.toList).1.opens=true:=by rw[hq1];exact ho
   have hsl:(s.whole x.data.toList).1.lined=true:=by rw[hq1];exact hld
   generalize (s.whole x.data.toList).1=s1 at HC hq2 hLok hso hso2 hsl ⊢;generalize (s.whole x.data.toList).2.1=n at HC ⊢
   have hll:(cD s1.ln.line).size<=999999:=by
    show s1.ln.line.toArray.size<=_;have:=hLok.t;have:=hLok.m;have:=hLok.l0;simp;omega
   have HP:=lH (fun W=>mp (cD s1.ln.line) hll W);have hst:(cD s1.ln.line).data.toList=s1.ln.line:=rfl;rw[hst] at HP;have HR:=lH (dA s1.ln.line);obtain⟨c1,c2,hc⟩:∃c1 c2,aQ s1.ln.line=(c1,c2):=⟨_,_,rfl⟩;rw[hc] at HP HR ⊢;simp only at HP HR ⊢;have HO:=lH hso2;have HS:=lH hsl;have HQ:=lH hq2;have HL:=lH (show s1.out.length<=999998 by rw[hso];exact hl);clear h hl ho hm hok he hw hld hwh hq1 hq2 hLok hso hso2 hsl hll hst hc;by_cases h2:c2=0
   ·rw[if_neg (fun h=>h h2)]
    subst h2;by_cases h3:c1=0
    ·rw[if_pos h3]
     subst h3;have hmf:∀(fn:Fn) (first cap:Array Value) (W:World),(Instr.makeFunc fn first cap).run Tryz.prog W=.ok (.func fn first cap) W:=fun _ _ _ _=>rfl;go_enter Tryz.func78,Tryz.ntmps78
     go_wp2_with (first|(go_at_call 94;refine HC.out.mono ?_;rintro e1 w1 ⟨rfl,V1,h1,g1⟩;have y8:w1.cell? ⟨D,8,none⟩=some (.pointer (some ⟨V1.gl,0,none⟩)):=(h1.k.cell 8).trans (uF some (h1.r.l HS.out).p);have H1:=lH h1;have G1:=lH g1;clear h1 g1)|(go_at_call 72;refine(cF (H1.out.r.l HS.out).l HQ.out).mono ?_;rintro e2 w2 ⟨rfl,v2,h2,t2,b2⟩;have A2:=lH (H1.out.fed HS.out h2 (bD t2));have G2:=lH (ap.fed (V:=V1) (D:=D) (bD t2) (Or.inl b2));clear h2 t2 b2)|(go_at_call 95;refine(HP.out _).mono ?_;rintro e3 w3 ⟨rfl,b3⟩;have A3:=lH (A2.out.call b3);have G3:=lH ((G1.out.trans G2.out).trans (ap.of_below b3));have y0:w3.cell? ⟨D,0,none⟩=some (.int .i64 m.head):=A3.out.k.cell 0;clear b3)|(go_at_call 68;refine(ba m.head hh0 hh1 _).mono ?_;rintro e4 w4 ⟨rfl,h4⟩;have ka:ac w4 D (cy m _ _) 117:=h4▸A3.out.k.alloc _;obtain⟨z8,z5⟩:=bf2 ka 8 5;have y8:w4.cell? ⟨D,8,none⟩=some V1.vp:=ka.cell 8;have y5:w4.cell? ⟨D,5,none⟩=some V1.vn:=ka.cell 5;have HW:=lH h4;clear h4 ka))
     go_ret;have hg:ac w4 w3.heap.size ((eI m.head).row (.slice none 0 0)) 136:=HW.out▸ac.new w3 _ _;have B1:Below w3.heap.size w3 w4:=HW.out▸(tU _ _).alloc (nR _) _;have A4:=A3.out.call B1;exact⟨rfl,_,sR A4 HO.out (Or.inr ⟨rfl,rfl⟩) hg A3.out.size,G3.out.trans ⟨aA (aa.of_below B1) ((qz w4 D _ _).mono (Q:=fS D _) (fun _ _ e=>Or.inl e)) (fun _ _ h=>h),fun j hj e=>begF hj e⟩⟩
    ·rw[if_neg h3]
     have h4:(c1==0)=false:=by rw[tT];exact h3
     have hmf:∀(fn:Fn) (first cap:Array Value) (W:World),(Instr.makeFunc fn first cap).run Tryz.prog W=.ok (.func fn first cap) W:=fun _ _ _ _=>rfl;go_enter Tryz.func78,Tryz.ntmps78
     go_wp2_with (first|(go_at_call 94;refine HC.out.mono ?_;rintro e1 w1 ⟨rfl,V1,h1,g1⟩;have y8:w1.cell? ⟨D,8,none⟩=some (.pointer (some ⟨V1.gl,0,none⟩)):=(h1.k.cell 8).trans (uF some (h1.r.l HS.out).p);have H1:=lH h1;have G1:=lH g1;clear h1 g1)|(go_at_call 72;refine(cF (H1.out.r.l HS.out).l HQ.out).mono ?_;rintro e2 w2 ⟨rfl,v2,h2,t2,b2⟩;have A2:=lH (H1.out.fed HS.out h2 (bD t2));have G2:=lH (ap.fed (V:=V1) (D:=D) (bD t2) (Or.inl b2));clear h2 t2 b2)|(go_at_call 95;refine(HP.out _).mono ?_;rintro e3 w3 ⟨rfl,b3⟩;have A3:=lH (A2.out.call b3);have G3:=lH ((G1.out.trans G2.out).trans (ap.of_below b3));clear b3)|(go_at_call 80;refine(bk A3.out (by have:=HL.out;exact nT this (by decide)) ⟨2,c1,⟨#[]⟩⟩).mono ?_;rintro e4 w4 ⟨rfl,vo,h4,g4⟩;obtain⟨z7,z5⟩:=bf2 h4.k 7 5;have y7:w4.cell? ⟨D,7,none⟩=some (.int .i64 s1.left):=h4.k.cell 7;have y5:w4.cell? ⟨D,5,none⟩=some V1.vn:=h4.k.cell 5;have H4:=lH h4;have G4:=lH g4;clear h4 g4))
     go_ret;exact⟨rfl,_,(nX H4.out HO.out).1,(G3.out.trans G4.out).trans (nX H4.out HO.out).2⟩
   ·rw[if_pos h2]
    have h4:(c2 != 0)=true:=by rw[uI];exact h2
    have h5:(c2==0)=false:=by rw[tT];exact h2
    go_enter Tryz.func78,Tryz.ntmps78
    go_wp2_with (first|(go_at_call 94;refine HC.out.mono ?_;rintro e1 w1 ⟨rfl,V1,h1,g1⟩;have y8:w1.cell? ⟨D,8,none⟩=some (.pointer (some ⟨V1.gl,0,none⟩)):=(h1.k.cell 8).trans (uF some (h1.r.l HS.out).p);have H1:=lH h1;have G1:=lH g1;clear h1 g1)|(go_at_call 72;refine(cF (H1.out.r.l HS.out).l HQ.out).mono ?_;rintro e2 w2 ⟨rfl,v2,h2,t2,b2⟩;have A2:=lH (H1.out.fed HS.out h2 (bD t2));have G2:=lH (ap.fed (V:=V1) (D:=D) (bD t2) (Or.inl b2));clear h2 t2 b2)|(go_at_call 95;refine(HP.out _).mono ?_;rintro e3 w3 ⟨rfl,b3⟩;have A3:=lH (A2.out.call b3);have G3:=lH ((G1.out.trans G2.out).trans (ap.of_below b3));clear b3)|(go_at_call 67;refine(cJ A3.out (by have:=HL.out;exact nT this (by decide)) c2 h2).mono ?_;rintro e4 w4 ⟨rfl,vo,h4,g4⟩;have H4:=lH h4;have G4:=lH g4;clear h4 g4))
    go_ret;exact⟨rfl,_,H4.out,G3.out.trans G4.out⟩
end Go.Proofs.YthjbodpeckebiaaGreatDoor
-- BdK
namespace Go.Proofs.YthjbodpeckebiaaGreatDoor
open Go.RowKit
theorem eG {m:Lm} {s:am} {x:List UInt8} (hm:s.md=.trailer):an m s x=(if (s.whole x).2.2=false then ((s.whole x).1,(s.whole x).2.1)
 else (if (s.whole x).1.ln.line≠[] then { (s.whole x).1.read (s.whole x).1.ln with all:=(s.whole x).1.all++[cD (s.whole x).1.ln.line] }
  else if m.fields<((s.whole x).1.all.length:Int) then ((s.whole x).1.read (s.whole x).1.ln).wrong 4 else if (bN m.fold (s.whole x).1.all).2≠0 then ((s.whole x).1.read (s.whole x).1.ln).wrong (bN m.fold (s.whole x).1.all).2 else ({ (s.whole x).1.read (s.whole x).1.ln with tr:=(bN m.fold (s.whole x).1.all).1 }:am).ends,(s.whole x).2.1)):=by
 unfold an;rw[hm];rfl
theorem dl {w w1:World} {n0:Nat} {u:Value} (h:w.cell? ⟨0,0,none⟩=some u) (h0:0<n0) (hb:Below n0 w w1):w1.cell? ⟨0,0,none⟩=some u:=(World.cell?_of_block (hb.block 0 h0)).trans h
theorem tS {w w1:World} {D n0:Nat} {m:Lm} {s:am} {V:bh} (h:ah w D n0 m s V) {v':Value} {l':List ByteArray} (o:ao w1 n0 v' l') (t:aa (fun j=>V.va.ownBlock=some j) w w1) (hv:V.va.ownBlock=v'.ownBlock\/∀k,v'.ownBlock=some k->w.heap.size<=k):
 ah (w1.setCell ⟨D,9,none⟩ v') D n0 m { s with all:=l' } { V with va:=v' }/\ap w (w1.setCell ⟨D,9,none⟩ v') D V { V with va:=v' }:=by
 have hP:bZ w (fun j=>V.va.ownBlock=some j) [9]:=fun j hj=>by
  obtain⟨_,cs,hb⟩:=aN h.r.a j hj;exact⟨_,_,vj,hb⟩
 have k1:=h.k.touch t (hP.not h.k (by decide));have T2:=aO w1 D 9 v';have hD:bZ w1 (fun j=>j=D) [117]:=fun j e=>⟨_,_,vj,e▸k1⟩;have o1:aU w1 n0 V.vo s.out:=ab h.o t (hP.own h.o (by decide));have t1:aj w1 n0 V.vt s.tr:=ab h.r.t t (hP.own h.r.t (by decide));refine⟨⟨k1.set 9 _,h.d,ab o1 T2 (hD.own o1 (by decide)),⟨ab o T2 (hD.own o (by decide)),ab t1 T2 (hD.own t1 (by decide)),fun e=>((h.r.n e).touch t hP (by decide) (by decide) (by decide)).touch T2 hD (by decide) (by decide) (by decide),fun e=>?_,h.r.u,h.r.f⟩⟩,⟨aA (t.mono (Q:=fS D V) (fun _ _ e=>Or.inr (Or.inr (Or.inl e)))) (T2.mono (Q:=fS D V) (fun _ _ e=>Or.inl e)) (fun _ _ h=>h),fun j hj e=>?_⟩⟩
 ·have b:=((h.r.l e).touch t hP (by decide) (by decide)).touch T2 hD (by decide) (by decide)
  exact⟨b.p,b.n,b.l⟩
 ·rcases e with e|e|e|e|e
  ·exact Or.inl e
  ·exact Or.inr (Or.inl e)
  ·rcases hv with hv|hv
   ·exact Or.inr (Or.inr (Or.inl (hv.trans e)))
   ·have:=hv j e
    omega
  ·exact Or.inr (Or.inr (Or.inr (Or.inl e)))
  ·exact Or.inr (Or.inr (Or.inr (Or.inr e)))
end Go.Proofs.YthjbodpeckebiaaGreatDoor
-- BdO
namespace Go.Proofs.YthjbodpeckebiaaGreatDoor
open Go.RowKit
structure bi (m:Lm) (s:am):Prop where
 oe:s.over=true->s.e=0
 left:s.opens=true->0<=s.left/\s.left<=9223372036854775807
 pos:s.opens=true->(s.md=.sized\/s.md=.data)->0<s.left
 nn:s.opens=true->s.md≠.nothing
 lim:s.opens=true->0<=m.line/\m.line<=65536/\0<=m.head/\m.head<=65536
 ln:s.lined=true->eB s.ln/\s.ln.e=0/\s.ln.whole=false
 tt:s.lined=true->(s.ln.line.length+du s.all+s.all.length:Int)<=s.ln.spent
 all:s.opens=true->s.md≠.trailer->s.all=[]
 tr:s.tr.length<=65536
theorem aC {s:am} (h:s.lined=true):s.opens=true/\s.md.lined=true:=by
 have h':(s.opens&&s.md.lined)=true:=h;rwa [ux] at h'
theorem bi.shut {m:Lm} {s:am} (h:s.opens=false) (oe:s.over=true->s.e=0) (tr:s.tr.length<=65536):bi m s:=by
 have n:∀{p:Prop},s.opens=true->p:=fun e=>by rw[h] at e;cases e
 exact⟨oe,n,n,n,n,fun e=>n (aC e).1,fun e=>n (aC e).1,n,tr⟩
theorem fZ {s:am}:s.opens=true↔s.over=false/\s.e=0:=by
 unfold am.opens;simp
theorem dN (s:am) {e:Int} (he:e≠0):(s.wrong e).opens=false:=by
 unfold am.wrong am.put am.opens;simp[he]
theorem bi.wrong {m:Lm} {s:am} (ho:s.over=false) (tr:s.tr.length<=65536) {e:Int} (he:e≠0):bi m (s.wrong e):=
 bi.shut (dN s he) (fun h=>by have h':s.over=true:=h;rw[ho] at h';cases h') tr
theorem bi.ends {m:Lm} {s:am} (he:s.e=0) (tr:s.tr.length<=65536):bi m s.ends:=bi.shut rfl (fun _=>he) tr
theorem bi.all' {m:Lm} {s:am} (h:bi m s) (hl:s.lined=true):s.all.length<=65536/\du s.all<=65536:=by
 have:=h.tt hl;have:=(h.ln hl).1.m;have:=(h.ln hl).1.l0;omega
structure qw (m:Lm) (s:am) (x:List UInt8) (r:am×Nat):Prop where
 ok:bi m r.1
 out:r.1.out.length<=s.out.length+2
 le:r.2<=x.length
 go:r.2=0->r.1.opens=false
theorem mN {n:Int} (h0:0<=n) (h1:n<=65536):eB (eI n):=⟨h0,Int.le_refl 0,by show n+0<=65536;omega,by show ((0:Nat):Int)<=0;decide⟩
theorem j0 {m:Lm} {s:am} (h:bi m s) (ho:s.opens=true) (hp:0<s.left) {x:List UInt8} (hx:x≠[]):0<=(s.some x).1.left/\(s.some x).1.left<=s.left/\(s.some x).1.out.length=s.out.length+1/\(s.some x).2<=x.length/\(s.some x).2≠0/\(s.some x).1.over=false/\(s.some x).1.e=0/\(s.some x).1.tr=s.tr/\(s.some x).1.md=s.md/\(s.some x).1.all=s.all:=by
 have hl:0<x.length:=List.length_pos_iff.2 hx;obtain⟨h1,h2⟩:=fZ.1 ho;have h3:=(h.left ho).1;refine⟨(jZ h3 x).1,(jZ h3 x).2,iQ s x,?_,?_,h1,h2,rfl,rfl,rfl⟩
 ·show (min (x.length:Int) s.left).toNat<=x.length
  omega
 ·show (min (x.length:Int) s.left).toNat≠0
  omega
theorem iC {s:am} (ho:s.opens=true) (hm:s.md=.size):s.lined=true:=by unfold am.lined;rw[ho,hm];rfl
theorem cZ {s:am} (ho:s.opens=true) (hm:s.md=.trailer):s.lined=true:=by unfold am.lined;rw[ho,hm];rfl
theorem iV {m:Lm} {s:am} (h:bi m s) (hl:s.lined=true) {x:List UInt8} (hx:x≠[]) (hw:(s.whole x).2.2=false):qw m s x ((s.whole x).1,(s.whole x).2.1):=by
 obtain⟨hok,he,hnw⟩:=h.ln hl;obtain⟨ho,hmd⟩:=aC hl;obtain⟨h1,h2⟩:=fZ.1 ho;have hw':(ag x s.ln).1.whole=false:=hw;have hle:=dj x s.ln;by_cases h3:(ag x s.ln).1.e=0
 ·have e1:(s.whole x).1={ s with ln:=(ag x s.ln).1 }:=by
   unfold am.whole;simp only;rw[if_pos h3]
  rw[e1];have hd:=fy x s.ln;rw[hw',hnw] at hd;simp only[uP,false_and,if_false] at hd;have ht:=h.tt hl;refine⟨⟨h.oe,h.left,h.pos,h.nn,h.lim,fun _=>⟨dk _ _ hok,h3,hw'⟩,fun _=>?_,h.all,h.tr⟩,uv _ _,hle,fun h0=>?_⟩
  ·show ((ag x s.ln).1.line.length+du s.all+s.all.length:Int)<=(ag x s.ln).1.spent
   omega
  ·exact absurd h3 (cA hx hnw he h0).1
 ·have e1:(s.whole x).1=({ s with ln:=(ag x s.ln).1 }:am).wrong (ag x s.ln).1.e:=by
   unfold am.whole;simp only;rw[if_neg h3]
  rw[e1];refine⟨bi.wrong (by exact h1) (by exact h.tr) h3,?_,hle,fun _=>dN _ h3⟩;show (s.out++[_]).length<=_;rw[ue];exact Nat.add_le_add_left (uN 1) _
theorem mn {l:List UInt8} (h:(aQ l).1≠0):0<(aQ l).1:=by
 have:=(dA l).1;omega
theorem qy {m:Lm} {s:am} (h:bi m s) (ho:s.opens=true) {x:List UInt8} (hx:x≠[]):qw m s x (an m s x):=by
 have hl:0<x.length:=List.length_pos_iff.2 hx;obtain⟨h1,h2⟩:=fZ.1 ho;have hput:∀(p:Pc),(s.out++[p]).length<=s.out.length+2:=fun p=>by rw[ue];exact Nat.add_le_add_left (uN 1) _
 cases hm:s.md with
 | nothing=>exact absurd hm (h.nn ho)
 | rest=>
   have e:an m s x=(s.rest x,x.length):=by unfold an;rw[hm]
   rw[e];exact⟨⟨h.oe,h.left,h.pos,h.nn,h.lim,h.ln,h.tt,h.all,h.tr⟩,hput _,nR _,fun h0=>absurd h0 (Nat.ne_of_gt hl)⟩
 | sized=>
   obtain⟨k1,k2,k3,k4,k5,k6,k7,k8,k9,k10⟩:=j0 h ho (h.pos ho (Or.inl hm)) hx;have e:an m s x=(if (s.some x).1.left=0 then (s.some x).1.ends else (s.some x).1,(s.some x).2):=by unfold an;rw[hm]
   rw[e];have hr:(s.some x).1.tr.length<=65536:=by rw[k8];exact h.tr
   have hlf:=(h.left ho).2;refine⟨?_,?_,k4,fun h0=>absurd h0 k5⟩
   ·by_cases hz:(s.some x).1.left=0
    ·rw[if_pos hz];exact bi.ends k7 hr
    ·rw[if_neg hz]
     have hmd:(s.some x).1.md=.sized:=k9.trans hm;have hnl:∀{p:Prop},(s.some x).1.lined=true->p:=fun e=>by have:=(aC e).2;rw[hmd] at this;cases this
     exact⟨fun e=>(by rw[k6] at e;cases e),fun _=>⟨k1,Int.le_trans k2 hlf⟩,fun _ _=>Int.lt_iff_le_and_ne.2 ⟨k1,Ne.symm hz⟩,fun _ e=>(by rw[hmd] at e;cases e),fun _=>h.lim ho,hnl,hnl,fun _ _=>k10.trans (h.all ho (by rw[hm];exact fun e=>by cases e)),hr⟩
   ·by_cases hz:(s.some x).1.left=0
    ·rw[if_pos hz]
     show ((s.some x).1.out++[_]).length<=_;rw[ue,k3];exact nR _
    ·rw[if_neg hz,k3]
     exact uN _
 | data=>
   obtain⟨k1,k2,k3,k4,k5,k6,k7,k8,k9,k10⟩:=j0 h ho (h.pos ho (Or.inr hm)) hx;have e:an m s x=(if (s.some x).1.left=0 then { (s.some x).1 with md:=.cr } else (s.some x).1,(s.some x).2):=by unfold an;rw[hm]
   rw[e];have hr:(s.some x).1.tr.length<=65536:=by rw[k8];exact h.tr
   have hlf:=(h.left ho).2;have hal:(s.some x).1.all=[]:=k10.trans (h.all ho (by rw[hm];exact fun e=>by cases e));refine⟨?_,?_,k4,fun h0=>absurd h0 k5⟩
   ·by_cases hz:(s.some x).1.left=0
    ·rw[if_pos hz]
     have hnl:∀{p:Prop},({ (s.some x).1 with md:=.cr }:am).lined=true->p:=fun e=>by have:=(aC e).2;cases this
     exact⟨fun e=>(by have e':(s.some x).1.over=true:=e;rw[k6] at e';cases e'),fun _=>⟨k1,Int.le_trans k2 hlf⟩,fun _ e=>(by rcases e with e|e<;>cases e),fun _ e=>(by cases e),fun _=>h.lim ho,hnl,hnl,fun _ _=>hal,hr⟩
    ·rw[if_neg hz]
     have hmd:(s.some x).1.md=.data:=k9.trans hm;have hnl:∀{p:Prop},(s.some x).1.lined=true->p:=fun e=>by have:=(aC e).2;rw[hmd] at this;cases this
     exact⟨fun e=>(by rw[k6] at e;cases e),fun _=>⟨k1,Int.le_trans k2 hlf⟩,fun _ _=>Int.lt_iff_le_and_ne.2 ⟨k1,Ne.symm hz⟩,fun _ e=>(by rw[hmd] at e;cases e),fun _=>h.lim ho,hnl,hnl,fun _ _=>hal,hr⟩
   ·by_cases hz:(s.some x).1.left=0
    ·rw[if_pos hz]
     show (s.some x).1.out.length<=_;rw[k3];exact uN _
    ·rw[if_neg hz,k3]
     exact uN _
 | cr=>
   have e:an m s x=if x.head? = some 13 then ({ s with md:=.lf },1) else (s.wrong 3,0):=by unfold an;rw[hm]
   rw[e];by_cases hz:x.head? = some 13
   ·rw[if_pos hz]
    have hnl:∀{p:Prop},({ s with md:=.lf }:am).lined=true->p:=fun e=>by have:=(aC e).2;cases this
    exact⟨⟨h.oe,h.left,fun _ e=>(by rcases e with e|e<;>cases e),fun _ e=>(by cases e),h.lim,hnl,hnl,fun _ _=>h.all ho (by rw[hm];exact fun e=>(by cases e)),h.tr⟩,uv _ _,hl,fun h0=>by cases h0⟩
   ·rw[if_neg hz]
    exact⟨bi.wrong h1 h.tr (by decide),hput _,tX _,fun _=>dN _ (by decide)⟩
 | lf=>
   have e:an m s x=if x.head? = some 10 then ({ s with ln:=eI m.line,md:=.size },1) else (s.wrong 3,0):=by unfold an;rw[hm]
   rw[e];have hal:s.all=[]:=h.all ho (by rw[hm];exact fun e=>by cases e);by_cases hz:x.head? = some 10
   ·rw[if_pos hz]
    refine⟨⟨h.oe,h.left,fun _ e=>(by rcases e with e|e<;>cases e),fun _ e=>(by cases e),h.lim,fun _=>⟨mN (h.lim ho).1 (h.lim ho).2.1,rfl,rfl⟩,fun _=>?_,fun _ _=>hal,h.tr⟩,uv _ _,hl,fun h0=>by cases h0⟩;show (((eI m.line).line.length:Int)+du s.all+s.all.length:Int)<=(eI m.line).spent;rw[hal];exact Int.le_refl 0
   ·rw[if_neg hz]
    exact⟨bi.wrong h1 h.tr (by decide),hput _,tX _,fun _=>dN _ (by decide)⟩
 | size=>
   rw[ii hm];have hld:=iC ho hm;obtain⟨hok,he,hnw⟩:=h.ln hld;have hal:s.all=[]:=h.all ho (by rw[hm];exact fun e=>by cases e);cases hwh:(s.whole x).2.2 with
   | false=>rw[if_pos rfl];exact iV h hld hx hwh
   | true=>
     rw[if_neg (by decide)];obtain⟨hq1,hq2⟩:=fO he hnw hwh;have hq3:(ag x s.ln).1.whole=true:=hwh;have hle:(s.whole x).2.1<=x.length:=dj x s.ln
     have hgo:(s.whole x).2.1≠0:=fun h0=>by
      have:=(cA hx hnw he h0).2;rw[hq3] at this;cases this
     rw[hq1];refine⟨?_,?_,hle,fun h0=>absurd h0 hgo⟩
     ·by_cases c2:(aQ (ag x s.ln).1.line).2=0
      ·rw[if_neg (fun h=>h c2)]
       by_cases c1:(aQ (ag x s.ln).1.line).1=0
       ·rw[if_pos c1]
        refine⟨h.oe,h.left,fun _ e=>(by rcases e with e|e<;>cases e),fun _ e=>(by cases e),h.lim,fun _=>⟨mN (h.lim ho).2.2.1 (h.lim ho).2.2.2,rfl,rfl⟩,fun _=>?_,fun _ _=>hal,h.tr⟩;show (((eI m.head).line.length:Int)+du s.all+s.all.length:Int)<=(eI m.head).spent;rw[hal];exact Int.le_refl 0
       ·rw[if_neg c1]
        have hr:=dA (ag x s.ln).1.line;have hp:=mn c1;have hnl:∀{p:Prop} {t:am},t.md=.data->t.lined=true->p:=fun hmd e=>by have:=(aC e).2;rw[hmd] at this;cases this
        exact⟨h.oe,fun _=>⟨hr.1,Int.le_trans hr.2.1 (by decide)⟩,fun _ _=>hp,fun _ e=>(by cases e),h.lim,hnl rfl,hnl rfl,fun _ _=>hal,h.tr⟩
      ·rw[if_pos c2]
       exact bi.wrong (by exact h1) (by exact h.tr) c2
     ·by_cases c2:(aQ (ag x s.ln).1.line).2=0
      ·rw[if_neg (fun h=>h c2)]
       by_cases c1:(aQ (ag x s.ln).1.line).1=0
       ·rw[if_pos c1]
        exact uv _ _
       ·rw[if_neg c1]
        exact hput _
      ·rw[if_pos c2]
       exact hput _
 | trailer=>
   rw[eG hm];have hld:=cZ ho hm;obtain⟨hok,he,hnw⟩:=h.ln hld;cases hwh:(s.whole x).2.2 with
   | false=>rw[if_pos rfl];exact iV h hld hx hwh
   | true=>
     rw[if_neg (by decide)];obtain⟨hq1,hq2⟩:=fO he hnw hwh;have hq3:(ag x s.ln).1.whole=true:=hwh;have hle:(s.whole x).2.1<=x.length:=dj x s.ln
     have hgo:(s.whole x).2.1≠0:=fun h0=>by
      have:=(cA hx hnw he h0).2;rw[hq3] at this;cases this
     have hq4:(ag x s.ln).1.e=0:=by
      by_cases h3:(ag x s.ln).1.e=0
      ·exact h3
      ·have:=eQ x s.ln he hnw h3
       rw[hq3] at this;cases this
     have hd:=fy x s.ln;rw[hq3,hnw] at hd;simp only[and_self,if_true] at hd;have ht:=h.tt hld;have hk:=dk x _ hok;rw[hq1];refine⟨?_,?_,hle,fun h0=>absurd h0 hgo⟩
     ·by_cases c0:(ag x s.ln).1.line=[]
      ·rw[if_neg (fun h=>h c0)]
       by_cases c1:m.fields<(s.all.length:Int)
       ·rw[if_pos c1]
        exact bi.wrong (by exact h1) (by exact h.tr) (show (4:Int)≠0 by decide)
       ·rw[if_neg c1]
        by_cases c2:(bN m.fold s.all).2=0
        ·rw[if_neg (fun h=>h c2)]
         exact bi.ends h2 (nT (kN _ _) (h.all' hld).1)
        ·rw[if_pos c2]
         exact bi.wrong (by exact h1) (by exact h.tr) c2
      ·rw[if_pos c0]
       refine⟨h.oe,h.left,fun _ e=>(by rcases e with e|e<;>(have e':s.md=_:=e;rw[hm] at e';cases e')),h.nn,h.lim,fun _=>⟨⟨hk.l0,hk.s0,hk.m,by show ((0:Nat):Int)<=(ag x s.ln).1.spent;have:=hk.s0;simpa using this⟩,hq4,rfl⟩,fun _=>?_,fun _ e=>absurd hm e,h.tr⟩;show (((0:Nat):Int)+du (s.all++[cD (ag x s.ln).1.line])+(s.all++[cD (ag x s.ln).1.line]).length:Int)<=(ag x s.ln).1.spent;rw[fJ,j1,ue];simp only[List.length_singleton];omega
     ·by_cases c0:(ag x s.ln).1.line=[]
      ·rw[if_neg (fun h=>h c0)]
       by_cases c1:m.fields<(s.all.length:Int)
       ·rw[if_pos c1]
        exact hput _
       ·rw[if_neg c1]
        by_cases c2:(bN m.fold s.all).2=0
        ·rw[if_neg (fun h=>h c2)]
         exact hput _
        ·rw[if_pos c2]
         exact hput _
      ·rw[if_pos c0]
       exact uv _ _
theorem jm {m:Lm} {f:Nat} {s:am} {x:List UInt8} (h:x=[]\/s.opens=false):ig m f s x=(s,0):=by
 cases f with
 | zero=>rfl
 | succ f=>rw[ig,if_pos h]
theorem rX {m:Lm} {f:Nat} {s:am} {x:List UInt8} (h1:x≠[]) (h2:s.opens=true):ig m (f+1) s x=((ig m f (an m s x).1 (x.drop (an m s x).2)).1,(an m s x).2+(ig m f (an m s x).1 (x.drop (an m s x).2)).2):=by
 rw[ig,if_neg (by rintro (h|h);exact h1 h;rw[h2] at h;cases h)]
theorem rW (m:Lm) (kind len:Int) (hb:len<=9223372036854775807):bi m (aZ m kind len):=by
 unfold aZ;simp only;split
 ·exact bi.wrong rfl (tX _) (by decide)
 ·rename_i h1
  have hlim:0<=m.line/\m.line<=65536/\0<=m.head/\m.head<=65536:=by omega
  have hlen:0<=len:=by omega
  split
  ·exact bi.ends rfl (tX _)
  ·split
   ·split
    ·exact bi.ends rfl (tX _)
    ·rename_i h2
     refine⟨fun _=>rfl,fun _=>⟨hlen,hb⟩,fun _ _=>?_,fun _ e=>(by cases e),fun _=>hlim,fun e=>(by have:=(aC e).2;cases this),fun e=>(by have:=(aC e).2;cases this),fun _ _=>rfl,tX _⟩;show 0<len;omega
   ·split
    ·exact⟨fun _=>rfl,fun _=>⟨hlen,hb⟩,fun _ e=>(by rcases e with e|e<;>cases e),fun _ e=>(by cases e),fun _=>hlim,fun _=>⟨mN hlim.1 hlim.2.1,rfl,rfl⟩,fun _=>Int.le_refl 0,fun _ _=>rfl,tX _⟩
    ·split
     ·exact⟨fun _=>rfl,fun _=>⟨hlen,hb⟩,fun _ e=>(by rcases e with e|e<;>cases e),fun _ e=>(by cases e),fun _=>hlim,fun e=>(by have:=(aC e).2;cases this),fun e=>(by have:=(aC e).2;cases this),fun _ _=>rfl,tX _⟩
     ·exact bi.wrong rfl (tX _) (by decide)
theorem kO {m:Lm} {s:am} (h:bi m s):bi m (jn s):=⟨h.oe,h.left,h.pos,h.nn,h.lim,h.ln,h.tt,h.all,h.tr⟩
end Go.Proofs.YthjbodpeckebiaaGreatDoor
-- BdL
namespace Go.Proofs.YthjbodpeckebiaaGreatDoor
open Go.RowKit
theorem aj.shape {w:World} {B:Nat} {v:Value} {l:List Fd} (h:aj w B v l):∃p n c,v=.slice p n c:=by
 obtain⟨_,h⟩:=h;rcases h with ⟨rfl,_⟩|⟨g,cap,cur,rfl,_⟩
 ·exact⟨_,_,_,rfl⟩
 ·exact⟨_,_,_,rfl⟩
theorem ah.drewN {w:World} {D n0:Nat} {m:Lm} {s:am} {V:bh} (h:ah w D n0 m s V) (n:Nat):ah (w.drewN n) D n0 m s V:=h.call (cH w n)
theorem s9 {w:World} {D n0:Nat} {m:Lm} {s:am} {V:bh} (h:ah w D n0 m s V) {v':Value} {l':List Fd} (o:aj w n0 v' l'):
 ah (w.setCell ⟨D,10,none⟩ v') D n0 m { s with tr:=l' } { V with vt:=v' }/\ap w (w.setCell ⟨D,10,none⟩ v') D V { V with vt:=v' }:=by
 have T2:=aO w D 10 v';have hD:=h.ofD;refine⟨⟨h.k.set 10 _,h.d,ab h.o T2 (fun k hk e=>by obtain⟨_,cs,hb⟩:=aN h.o k hk;exact h.k.ne hb (by decide) e.symm),⟨ab h.r.a T2 (hD.own h.r.a (by decide)),ab o T2 (hD.own o (by decide)),fun e=>(h.r.n e).touch T2 hD (by decide) (by decide) (by decide),fun e=>?_,h.r.u,h.r.f⟩⟩,⟨T2.mono (fun _ _ e=>Or.inl e),fun _ _ e=>e⟩⟩;have b:=(h.r.l e).touch T2 hD (by decide) (by decide);exact⟨b.p,b.n,b.l⟩
theorem kh {w:World} {D n0:Nat} {m:Lm} {s:am} {V:bh} (h:ah w D n0 m s V) (hl:s.out.length<=999998) (ho:s.opens=true) (hm:s.md=.trailer) (hok:eB s.ln) (he:s.ln.e=0) (hw:s.ln.whole=false) (hal:s.all.length<=400000) (htot:du s.all<=400000) (hn0:0<n0) {mx:Int} (hmx:w.cell? ⟨0,0,none⟩=some (.int .i64 mx)) (x:ByteArray) (hx:x.size<=1000000):
 Calls Tryz.prog 96 #[.pointer (some ⟨D,0,none⟩),.string x] w fun e w'=>e=.returned (.int .i64 (an m s x.data.toList).2)/\∃V',ah w' D n0 m (an m s x.data.toList).1 V'/\ap w w' D V V':=by
 have hld:s.lined=true:=by unfold am.lined;rw[ho,hm];rfl
 have HC:=lH (ip h (by omega) hld hok x hx);have HBL:=lH (fun(W:World) (V1:bh) (g:ap w W D V V1)=>show W.cell? ⟨0,0,none⟩=some (.int .i64 mx) from dl hmx hn0 (h.below g));rw[eG hm];cases hwh:(s.whole x.data.toList).2.2 with
 | false=>
   rw[if_pos rfl];rw[hwh] at HC;clear h hl ho hm hok he hw hld hmx;go_enter Tryz.func96,Tryz.ntmps96
   go_wp2_with (go_at_call 94;refine HC.out.mono ?_;rintro e1 w1 ⟨rfl,V1,h1,g1⟩;have H1:=lH h1;have G1:=lH g1;clear h1 g1)
   go_ret;exact⟨rfl,V1,H1.out,G1.out⟩
 | true=>
   rw[if_neg (by decide)];rw[hwh] at HC;obtain⟨hq1,hq2⟩:=fO (x:=x.data.toList) he hw hwh;have hso:(s.whole x.data.toList).1.out=s.out:=by rw[hq1]
   have hsa:(s.whole x.data.toList).1.all=s.all:=by rw[hq1]
   have hso2:(s.whole x.data.toList).1.opens=true:=by rw[hq1];exact ho
   have hsl:(s.whole x.data.toList).1.lined=true:=by rw[hq1];exact hld
   generalize (s.whole x.data.toList).1=s1 at HC hq2 hso hsa hso2 hsl ⊢;generalize (s.whole x.data.toList).2.1=n at HC ⊢;have HO:=lH hso2;have HS:=lH hsl;have HQ:=lH hq2;have HAL:=lH (show s1.all.length<=400000 by rw[hsa];exact hal);have HTO:=lH (show du s1.all<=400000 by rw[hsa];exact htot);have HL:=lH (show s1.out.length<=999998 by rw[hso];exact hl);clear h hl ho hm hok he hw hld hwh hq1 hq2 hso hsa hso2 hsl hmx hal htot;by_cases hli:s1.ln.line=[]
   ·rw[if_neg (fun h=>h hli)]
    have hle:(cD s1.ln.line).toList.isEmpty=true:=by rw[af,hli];rfl
    clear hli;obtain⟨AL,hAL⟩:∃a,a=bN m.fold s1.all:=⟨_,rfl⟩;rw[<-hAL];obtain⟨fl,fe⟩:=AL;simp only;go_enter Tryz.func96,Tryz.ntmps96
    go_upto_region 8 with (first|(go_at_call 94;refine HC.out.mono ?_;rintro e1 w1 ⟨rfl,V1,h1,g1⟩;have y8:w1.cell? ⟨D,8,none⟩=some (.pointer (some ⟨V1.gl,0,none⟩)):=(h1.k.cell 8).trans (uF some (h1.r.l HS.out).p);have H1:=lH h1;have G1:=lH g1;clear h1 g1)|(go_at_call 72;refine(cF (H1.out.r.l HS.out).l HQ.out).mono ?_;rintro e2 w2 ⟨rfl,v2,h2,t2,b2⟩;have A2:=lH (H1.out.fed HS.out h2 (bD t2));have G2:=lH (G1.out.trans (ap.fed (V:=V1) (D:=D) (bD t2) (Or.inl b2)));clear h2 t2 b2))
    obtain⟨pa,ca,hva⟩:=(show ao w2 n0 V1.va s1.all from A2.out.r.a).shape;refine br (S:=fun W=>W.cell? ⟨D,4,none⟩=some (.int .i64 m.fold)/\W.cell? ⟨D,9,none⟩=some (.slice pa s1.all.length ca)) (by kernel_rfl) ?_;intro W0 hW0;have A3:=lH (show ah W0 D n0 m _ _ from hW0▸A2.out.drew);have G3:=lH (show ap w W0 D V _ from G2.out.trans (ap.of_below (hW0▸(tU _ _).drew)));have HST:=lH (show dy W0 (.slice pa s1.all.length ca) s1.all by rw[<-hva];exact ao.strs (show ao W0 n0 V1.va s1.all from A3.out.r.a));have h0:W0.cell? ⟨D,4,none⟩=some (.int .i64 m.fold)/\W0.cell? ⟨D,9,none⟩=some (.slice pa s1.all.length ca):=⟨A3.out.k.cell 4,(A3.out.k.cell 9).trans (uF some hva)⟩;clear hW0;refine tV (i:=0) (v:=.pointer (some ⟨D,0,none⟩)) rfl (by kernel_rfl) (by kernel_rfl) (by kernel_rfl) (fun _ _ _ h=>h) (Or.inl ⟨by kernel_rfl,?hy0⟩) h0 ?rest0
    case hy0=>
     intro v hv;clear hv;go_simp
    (try simp only[Act.put,lS,lZ,lC])
    refine tV (i:=1) (v:=.pointer (some ⟨D,0,none⟩)) rfl (by kernel_rfl) (by kernel_rfl) (by kernel_rfl) (fun _ _ _ h=>h) (Or.inl ⟨by kernel_rfl,?hy1⟩) h0 ?rest1
    case hy1=>
     intro v hv;clear hv;go_simp
    (try simp only[Act.put,lS,lZ,lC])
    refine tV (i:=2) (v:=.pointer (some ⟨D,0,none⟩)) rfl (by kernel_rfl) (by kernel_rfl) (by kernel_rfl) (fun _ _ _ h=>h) (Or.inl ⟨by kernel_rfl,?hy2⟩) h0 ?rest2
    case hy2=>
     intro v hv;clear hv;go_simp
    (try simp only[Act.put,lS,lZ,lC])
    refine tV (i:=3) (v:=.pointer (some ⟨D,4,none⟩)) rfl (by kernel_rfl) (by kernel_rfl) (by kernel_rfl) (fun _ _ _ h=>h) (Or.inl ⟨by kernel_rfl,?hy3⟩) h0 ?rest3
    case hy3=>
     intro v hv;clear hv;go_simp
    (try simp only[Act.put,lS,lZ,lC])
    refine tV (i:=4) (v:=.int .i64 m.fold) rfl (by kernel_rfl) (by kernel_rfl) (by kernel_rfl) (fun _ _ _ h=>h) (Or.inl ⟨by kernel_rfl,?hy4⟩) h0 ?rest4
    case hy4=>
     intro v hv;have q:=hv.1;clear hv;go_simp
    (try simp only[Act.put,lS,lZ,lC])
    refine tV (i:=5) (v:=.pointer (some ⟨D,0,none⟩)) rfl (by kernel_rfl) (by kernel_rfl) (by kernel_rfl) (fun _ _ _ h=>h) (Or.inl ⟨by kernel_rfl,?hy5⟩) h0 ?rest5
    case hy5=>
     intro v hv;clear hv;go_simp
    (try simp only[Act.put,lS,lZ,lC])
    refine tV (i:=6) (v:=.pointer (some ⟨D,0,none⟩)) rfl (by kernel_rfl) (by kernel_rfl) (by kernel_rfl) (fun _ _ _ h=>h) (Or.inl ⟨by kernel_rfl,?hy6⟩) h0 ?rest6
    case hy6=>
     intro v hv;clear hv;go_simp
    (try simp only[Act.put,lS,lZ,lC])
    refine tV (i:=7) (v:=.pointer (some ⟨D,9,none⟩)) rfl (by kernel_rfl) (by kernel_rfl) (by kernel_rfl) (fun _ _ _ h=>h) (Or.inl ⟨by kernel_rfl,?hy7⟩) h0 ?rest7
    case hy7=>
     intro v hv;clear hv;go_simp
    (try simp only[Act.put,lS,lZ,lC])
    refine tV (i:=8) (v:=.slice pa s1.all.length ca) rfl (by kernel_rfl) (by kernel_rfl) (by kernel_rfl) (fun _ _ _ h=>h) (Or.inl ⟨by kernel_rfl,?hy8⟩) h0 ?rest8
    case hy8=>
     intro v hv;have q:=hv.2;clear hv;go_simp
    (try simp only[Act.put,lS,lZ,lC])
    refine uq (rs:=[9]) (by kernel_rfl) (by simp) ?_;refine uf rfl (fun K hK=>?_) um;go_simp;refine(lg m.fold (.slice pa s1.all.length ca) s1.all W0 (HBL.out _ _ G3.out) HST.out (nT HAL.out (by decide)) (nT HTO.out (by decide))).mono ?_;rintro e W3 ⟨vt,rfl,hot,hb3⟩;have A4:=lH (A3.out.call hb3);have G4:=lH (G3.out.trans (ap.of_below hb3));rw[<-hAL];rw[<-hAL] at hot;have HT:=lH (hot.lower A3.out.size);have h3:W3.cell? ⟨D,4,none⟩=some (.int .i64 m.fold)/\W3.cell? ⟨D,9,none⟩=some (.slice pa s1.all.length ca):=⟨A4.out.k.cell 4,(A4.out.k.cell 9).trans (uF some hva)⟩;refine hK _ _ h3 (fun _=>?_);clear hK K h0 hot hb3 hAL;(try simp only[Act.put,lS,lZ,lC])
    obtain⟨pt,nt,ct,rfl⟩:=HT.out.shape;refine tV (i:=10) (v:=.tuple #[.slice pt nt ct,.int .i64 fe]) rfl (by kernel_rfl) (by kernel_rfl) (by kernel_rfl) (fun _ _ _ h=>h) (Or.inl ⟨by kernel_rfl,?hyh1⟩) h3 ?resth1
    case hyh1=>
     intro v hv;clear hv;go_simp
    (try simp only[Act.put,lS,lZ,lC])
    refine tV (i:=11) (v:=.slice pt nt ct) rfl (by kernel_rfl) (by kernel_rfl) (by kernel_rfl) (fun _ _ _ h=>h) (Or.inl ⟨by kernel_rfl,?hyh2⟩) h3 ?resth2
    case hyh2=>
     intro v hv;clear hv;go_simp
    (try simp only[Act.put,lS,lZ,lC])
    refine tV (i:=12) (v:=.int .i64 fe) rfl (by kernel_rfl) (by kernel_rfl) (by kernel_rfl) (fun _ _ _ h=>h) (Or.inl ⟨by kernel_rfl,?hyh3⟩) h3 ?resth3
    case hyh3=>
     intro v hv;clear hv;go_simp
    (try simp only[Act.put,lS,lZ,lC])
    refine uq (rs:=[13]) (by kernel_rfl) (by simp) ?_;refine uf rfl (fun K hK=>?_) um;go_simp;refine hK _ _ h3 (fun _=>?_);clear hK K;(try simp only[Act.put,lS,lZ,lC])
    refine uq (rs:=[14]) (by kernel_rfl) (by simp) ?_;refine uf rfl (fun K hK=>?_) um;go_simp;refine hK _ _ h3 (fun _=>?_);clear hK K;(try simp only[Act.put,lS,lZ,lC])
    refine wpAnyH_done (by kernel_rfl) ?_ _;have y9:W3.cell? ⟨D,9,none⟩=some (.slice pa s1.all.length ca):=(A4.out.k.cell 9).trans (uF some hva);have y1:W3.cell? ⟨D,1,none⟩=some (.int .i64 m.fields):=A4.out.k.cell 1;have z10:W3.frozen? ⟨D,10,none⟩=false:=A4.out.k.froz 10;have y10:W3.cell? ⟨D,10,none⟩=some V1.vt:=A4.out.k.cell 10;clear h3 hva;by_cases c1:m.fields<(s1.all.length:Int)
    ·have d1:decide ((s1.all.length:Int) > m.fields)=true:=dT c1
     go_wp2_with fail
     go_quiet (fail)
     go_wp2_with (go_at_call 67;refine(cJ (A4.out.drewN _) (nT HL.out (by decide)) 4 (by decide)).mono ?_;rintro e5 w5 ⟨rfl,vo,h5,g5⟩;have H5:=lH h5;have G5:=lH g5;clear h5 g5)
     go_ret;exact⟨rfl,_,H5.out,(G4.out.trans (ap.of_below (cH W3 _))).trans G5.out⟩
    ·have d1:decide ((s1.all.length:Int) > m.fields)=false:=dF c1
     by_cases c2:fe=0
     ·subst c2
      go_wp2_with fail
      go_quiet (fail)
      go_wp2_with (go_at_call 66;refine(jp (s9 (A4.out.drewN _) (HT.out.call (cH W3 _))).1 (nT HL.out (by decide))).mono ?_;rintro e5 w5 ⟨rfl,vo,h5,g5⟩;have H5:=lH h5;have G5:=lH g5;clear h5 g5)
      go_ret;try rw[if_neg (fun h=>h rfl)]
      exact⟨rfl,_,H5.out,((G4.out.trans (ap.of_below (cH W3 _))).trans (s9 (A4.out.drewN _) (HT.out.call (cH W3 _))).2).trans G5.out⟩
     ·have d2:(fe != 0)=true:=by rw[uI];exact c2
      have d3:(fe==0)=false:=by rw[tT];exact c2
      go_wp2_with fail
      go_quiet (fail)
      go_wp2_with (go_at_call 67;refine(cJ (A4.out.drewN _) (nT HL.out (by decide)) fe c2).mono ?_;rintro e5 w5 ⟨rfl,vo,h5,g5⟩;have H5:=lH h5;have G5:=lH g5;clear h5 g5)
      go_ret;try rw[if_pos c2]
      exact⟨rfl,_,H5.out,(G4.out.trans (ap.of_below (cH W3 _))).trans G5.out⟩
   ·rw[if_pos hli]
    have hle:(cD s1.ln.line).toList.isEmpty=false:=by
     rw[af];show s1.ln.line.isEmpty=false;cases e:s1.ln.line with
     | nil=>exact absurd e hli
     | cons a b=>rfl
    go_enter Tryz.func96,Tryz.ntmps96
    go_wp2_with (first|(go_at_call 94;refine HC.out.mono ?_;rintro e1 w1 ⟨rfl,V1,h1,g1⟩;have y8:w1.cell? ⟨D,8,none⟩=some (.pointer (some ⟨V1.gl,0,none⟩)):=(h1.k.cell 8).trans (uF some (h1.r.l HS.out).p);have H1:=lH h1;have G1:=lH g1;clear h1 g1)|(go_at_call 72;refine(cF (H1.out.r.l HS.out).l HQ.out).mono ?_;rintro e2 w2 ⟨rfl,v2,h2,t2,b2⟩;have A2:=lH (H1.out.fed HS.out h2 (bD t2));have G2:=lH (G1.out.trans (ap.fed (V:=V1) (D:=D) (bD t2) (Or.inl b2)));have y9:w2.cell? ⟨D,9,none⟩=some V1.va:=A2.out.k.cell 9;clear h2 t2 b2)|(at_builtin;go_loud (refine dr rfl _ _ rfl rfl (show ao w2 n0 V1.va s1.all from A2.out.r.a) (cD s1.ln.line) rfl (nT HAL.out (by decide)) A2.out.size ?_;intro g3 c3 w3 ho3 ht3 hg3;have B3:=lH (tS A2.out ho3 ht3 (hg3.imp (fun e=>e.trans rfl) (fun h k hk=>by cases hk;exact h)));have k3:=A2.out.k.touch ht3 (fun e=>by obtain⟨_,cs,hb⟩:=aN A2.out.r.a D e;exact A2.out.k.ne hb (by decide) rfl);have z9:=k3.froz 9;have y9:w3.cell? ⟨D,9,none⟩=some V1.va:=k3.cell 9;clear ho3 ht3 hg3 k3)))
    go_ret;exact⟨rfl,_,B3.out.1,G2.out.trans B3.out.2⟩
end Go.Proofs.YthjbodpeckebiaaGreatDoor
-- BdM
namespace Go.Proofs.YthjbodpeckebiaaGreatDoor
open Go.RowKit
theorem mg {m:Lm} {s:am} {x:List UInt8} (hm:s.md=.rest):an m s x=(s.rest x,x.length):=by unfold an;rw[hm]
theorem oy {w:World} {D n0:Nat} {m:Lm} {s:am} {V:bh} (h:ah w D n0 m s V) (hb:bi m s) (ho:s.opens=true) (hl:s.out.length<=900000) (hn0:0<n0) {mx:Int} (hmx:w.cell? ⟨0,0,none⟩=some (.int .i64 mx)) (x:ByteArray) (hx0:0<x.size) (hx:x.size<=1000000):
 ∃f a c,V.vn=.func (.func f) a c/\(∀xs W,(callFunc f xs).run Tryz.prog W=.ok (.enter f xs) W)/\Calls Tryz.prog f (a.push (.string x)++c) w fun e w'=>e=.returned (.int .i64 (an m s x.data.toList).2)/\∃V',ah w' D n0 m (an m s x.data.toList).1 V'/\ap w w' D V V':=by
 have hn:=h.r.n ho;obtain⟨l0,l1⟩:=hb.left ho;obtain⟨m0,m1,m2,m3⟩:=hb.lim ho;cases hm:s.md with
 | nothing=>exact absurd hm (hb.nn ho)
 | rest=>
   rw[hm] at hn;refine⟨_,_,_,hn,fun _ _=>by kernel_rfl,?_⟩;rw[mg hm];exact(js h (by omega) x hx).mono fun _ _ ⟨h1,vo,h2,h3⟩=>⟨by rw[h1,Lib.size_eq],_,h2,h3⟩
 | sized=>
   rw[hm] at hn;exact⟨_,_,_,hn,fun _ _=>by kernel_rfl,mm h (by omega) hm x hx l0 l1⟩
 | data=>
   rw[hm] at hn;exact⟨_,_,_,hn,fun _ _=>by kernel_rfl,og h (by omega) hm x hx l0 l1⟩
 | size=>
   rw[hm] at hn;obtain⟨k1,k2,k3⟩:=hb.ln (iC ho hm);exact⟨_,_,_,hn,fun _ _=>by kernel_rfl,ox h (by omega) ho hm k1 k2 k3 m2 m3 x hx⟩
 | trailer=>
   rw[hm] at hn;obtain⟨k1,k2,k3⟩:=hb.ln (cZ ho hm);have ha:=hb.all' (cZ ho hm);exact⟨_,_,_,hn,fun _ _=>by kernel_rfl,kh h (by omega) ho hm k1 k2 k3 (by omega) (by omega) hn0 hmx x hx⟩
 | lf=>
   rw[hm] at hn;obtain⟨bc,bd,bt,hv,k1,k2,k3⟩:=hn;exact⟨_,_,_,hv,fun _ _=>by kernel_rfl,qD h (by omega) ho hm m0 m1 x hx0 bc bd bt k1 k2 k3⟩
 | cr=>
   rw[hm] at hn;obtain⟨lf,⟨bc,bd,bt,hv,k1,k2,k3⟩,hlf⟩:=hn;have hlf':=hlf;obtain⟨_,_,_,hv2,_⟩:=hlf';subst hv2;exact⟨_,_,_,hv,fun _ _=>by kernel_rfl,qC h (by omega) ho hm x hx0 bc bd bt _ _ _ hlf k1 k2 k3⟩
def dO (m:Lm) (s:am) (x:List UInt8):am×Nat:=ig m (x.length+1) s x
def bM (D:Nat) (w:World):Nat:=match w.cell? ⟨D,12,none⟩,w.cell? ⟨D,13,none⟩ with
 | some (.bool false),some (.int _ e)=>if e=0 then 1 else 0
 | _,_=>0
theorem sQ {w:World} {D:Nat} {m:Lm} {s:am} {V:bh} (h:ac w D (cy m s V) 117):bM D w=if s.opens=true then 1 else 0:=by
 have y12:w.cell? ⟨D,12,none⟩=some (.bool s.over):=h.cell 12;have y13:w.cell? ⟨D,13,none⟩=some (.int .i64 s.e):=h.cell 13;unfold bM am.opens;rw[y12,y13];cases s.over with
 | true=>simp
 | false=>
   by_cases he:s.e=0
   ·simp[he]
   ·simp[he]
theorem oh {w:World} {D n0:Nat} {m:Lm} {s:am} {V:bh} (h:ah w D n0 m s V) (hb:bi m s) (hl:s.out.length<=1000) (hn0:0<n0) {mx:Int} (hmx:w.cell? ⟨0,0,none⟩=some (.int .i64 mx)) (S:ByteArray) (hS:S.size<=100000):
 Calls Tryz.prog 38 #[.pointer (some ⟨D,0,none⟩),.string S] w fun e w'=>∃vo V',e=.returned (.tuple #[.int .i64 (dO m s S.data.toList).2,vo])/\ah w' D n0 m (jn (dO m s S.data.toList).1) V'/\aU w' n0 vo (dO m s S.data.toList).1.out/\ap w w' D V V'/\V'.vo=.slice none 0 0/\bi m (jn (dO m s S.data.toList).1)/\(dO m s S.data.toList).1.out.length<=300000:=by
 obtain⟨R,hR⟩:∃R,R=dO m s S.data.toList:=⟨_,rfl⟩;rw[<-hR];have hn:S.data.toList.length=S.size:=(Lib.size_eq S).symm;have HBL:=lH (fun(W:World) (V1:bh) (g:ap w W D V V1)=>show W.cell? ⟨0,0,none⟩=some (.int .i64 mx) from dl hmx hn0 (h.below g));have H:=lH h;have HR:=lH hR;have HB:=lH hb;have HN:=lH hn;have HL:=lH hl;clear h hR hb hn hl hmx;go_enter Tryz.func38,Tryz.ntmps38
 go_wp2_with fail
 go_loopw [4] (fun u4 wr=>∃(k f:Nat) (sk:am) (Vk:bh),k<=S.size/\u4=.int .i64 k/\ah wr D n0 m sk Vk/\bi m sk/\R=((ig m f sk (S.data.toList.drop k)).1,k+(ig m f sk (S.data.toList.drop k)).2)/\ap w wr D V Vk/\S.size - k+(if sk.opens=true then 1 else 0)<=f/\sk.out.length+2*f<=1000+2*(S.size+1)) (fun u4 wr=>2*(S.size - (intOf u4).toNat)+bM D wr)
 case atStart=>
  refine⟨0,S.data.toList.length+1,s,V,tX _,rfl,H.out,HB.out,?_,ap.refl _ _ _,?_,?_⟩
  ·rw[HR.out,us,uJ];rfl
  ·rw[HN.out];split<;>omega
  ·have:=HL.out;have:=HN.out;omega
 case round=>
  obtain⟨k,f,sk,Vk,hk,rfl,hat,hok,hpre,hgo,hf,hlo⟩:=hrel;have HA:=lH hat;have HO:=lH hok;have HP:=lH hpre;have HG:=lH hgo;have HF:=lH hf;have HLO:=lH hlo;clear hat hok hpre hgo hf hlo;obtain⟨OP,hOP⟩:∃b,b=sk.opens:=⟨_,rfl⟩;have HOP:=lH hOP;clear hOP;by_cases hlt:k<S.size
  ·have hk1:decide ((k:Int)<(S.size:Int))=true:=dT (by omega)
   have hne:S.data.toList.drop k≠[]:=by
    intro e;have:=uF List.length e;rw[t7,HN.out] at this;simp at this;omega
   have HNE:=lH hne;clear hne;cases OP with
   | false=>
     have hfin:R=(sk,k):=by rw[HP.out,jm (Or.inr HOP.out.symm)];rfl
     have HFI:=lH hfin;clear hfin;go_wp2_with (first|(go_at_call 64;refine(jr HA.out).mono ?_;rw[<-HOP.out];rintro e1 w1 ⟨rfl,rfl⟩)|(go_at_call 65;refine(ju HA.out).mono ?_;rintro e2 w2 ⟨rfl,h2,o2,g2⟩;have H2:=lH h2;have O2:=lH o2;have G2:=lH g2;clear h2 o2 g2))
     go_ret2
     refine⟨Vk.vo,_,by rw[HFI.out];rfl,by rw[HFI.out];exact H2.out,by rw[HFI.out];exact O2.out,HG.out.trans G2.out,rfl,by rw[HFI.out];exact kO HO.out,?_⟩;rw[HFI.out];have:=HLO.out;show sk.out.length<=_;omega
   | true=>
     have hf1:∃f',f=f'+1:=⟨f - 1,by have:=HF.out;rw[if_pos HOP.out.symm] at this;omega⟩;obtain⟨f',rfl⟩:=hf1;obtain⟨T,hT⟩:∃T,T=S.extract k S.size:=⟨_,rfl⟩;have hTl:T.data.toList=S.data.toList.drop k:=by rw[hT];exact fq S k
     have hTs:T.size<=1000000:=by rw[hT,uZ];omega
     have hT0:0<T.size:=by rw[hT,uZ];omega
     have hsl:∀W:World,(Instr.slice 9 (.string S) (some (.int .i64 (k:Int))) none none).run Tryz.prog W=.ok (.string T) W:=fun W=>by
      rw[uK W 9 S Tryz.underlying9 .i64 (k:Int) (by omega) (by omega),uc,<-hT]
     have hso:=qy HO.out HOP.out.symm HNE.out;have hpr:=HP.out;rw[rX HNE.out HOP.out.symm] at hpr;rw[<-hTl] at hso hpr;have HTL:=lH hTl;have hst:=fun(W:World) (hW:ah W D n0 m sk Vk) (hm:W.cell? ⟨0,0,none⟩=some (.int .i64 mx))=>oy hW HO.out HOP.out.symm (by have:=HLO.out;omega) hn0 hm T hT0 hTs;generalize an m sk T.data.toList=Q at hso hpr hst;obtain⟨q1,q2⟩:=Q
     have hq2:q2<=S.size - k:=by
      have:=hso.le;rw[hTl,t7,HN.out] at this;exact this
     have hgo0:=hso.go;have hqo:=hso.out;have HQ0:=lH hgo0;have HQL:=lH hq2;have HQO:=lH hqo;have HQK:=lH hso.ok;have HPR:=lH hpr;have HST:=lH hst;have hm0:=sQ HA.out.k;rw[if_pos HOP.out.symm] at hm0;have HM0:=lH hm0;clear hso hpr hst hgo0 hqo hm0 hTl hTs hT hT0 hq2
     have hw1:wrap64 ((k:Int)+(q2:Int))=((k+q2:Nat):Int):=by
      have:=HQL.out;rw[uQ _ ⟨by omega,by omega⟩];omega
     have hw2:IntKind.i64.wrap ((k:Int)+(q2:Int))=(k:Int)+(q2:Int):=by
      have:=HQL.out;exact IntWalk.i64_in _ (by omega)
     go_upto_region 2 with (go_at_call 64;refine(jr HA.out).mono ?_;rw[<-HOP.out];rintro e1 w1 ⟨rfl,rfl⟩)
     refine br (S:=fun _=>True) (by kernel_rfl) ?_;intro W0 hW0;have A0:=lH (show ah W0 D n0 m sk Vk from hW0▸HA.out.drew);have G0:=lH (show ap w W0 D V Vk from HG.out.trans (ap.of_below (hW0▸(tU _ _).drew)));clear hW0;obtain⟨fn,fa,fc,hvn,hcf,hcall⟩:=HST.out W0 A0.out (HBL.out _ _ G0.out);have y5:W0.cell? ⟨D,5,none⟩=some (.func (.func fn) fa fc):=(A0.out.k.cell 5).trans (uF some hvn);have HC:=lH hcall;clear hcall hvn;refine tV (i:=0) (v:=.int .i64 (k:Int)) rfl (by kernel_rfl) (by kernel_rfl) (by kernel_rfl) (fun _ _ _ h=>h) (Or.inl ⟨by kernel_rfl,?hyh4⟩) trivial ?resth4
     case hyh4=>
      intro v hv;clear hv;go_simp
     (try simp only[Act.put,lS,lZ,lC])
     refine tV (i:=1) (v:=.pointer (some ⟨D,0,none⟩)) rfl (by kernel_rfl) (by kernel_rfl) (by kernel_rfl) (fun _ _ _ h=>h) (Or.inl ⟨by kernel_rfl,?hyh5⟩) trivial ?resth5
     case hyh5=>
      intro v hv;clear hv;go_simp
     (try simp only[Act.put,lS,lZ,lC])
     refine tV (i:=2) (v:=.pointer (some ⟨D,0,none⟩)) rfl (by kernel_rfl) (by kernel_rfl) (by kernel_rfl) (fun _ _ _ h=>h) (Or.inl ⟨by kernel_rfl,?hyh6⟩) trivial ?resth6
     case hyh6=>
      intro v hv;clear hv;go_simp
     (try simp only[Act.put,lS,lZ,lC])
     refine tV (i:=3) (v:=.pointer (some ⟨D,5,none⟩)) rfl (by kernel_rfl) (by kernel_rfl) (by kernel_rfl) (fun _ _ _ h=>h) (Or.inl ⟨by kernel_rfl,?hyh7⟩) trivial ?resth7
     case hyh7=>
      intro v hv;clear hv;go_simp
     (try simp only[Act.put,lS,lZ,lC])
     refine tV (i:=5) (v:=.string S) rfl (by kernel_rfl) (by kernel_rfl) (by kernel_rfl) (fun _ _ _ h=>h) (Or.inl ⟨by kernel_rfl,?hyh8⟩) trivial ?resth8
     case hyh8=>
      intro v hv;clear hv;go_simp
     (try simp only[Act.put,lS,lZ,lC])
     refine tV (i:=6) (v:=.int .i64 (k:Int)) rfl (by kernel_rfl) (by kernel_rfl) (by kernel_rfl) (fun _ _ _ h=>h) (Or.inl ⟨by kernel_rfl,?hyh9⟩) trivial ?resth9
     case hyh9=>
      intro v hv;clear hv;go_simp
     (try simp only[Act.put,lS,lZ,lC])
     refine tV (i:=7) (v:=.string T) rfl (by kernel_rfl) (by kernel_rfl) (by kernel_rfl) (fun _ _ _ h=>h) (Or.inl ⟨by kernel_rfl,?hyh10⟩) trivial ?resth10
     case hyh10=>
      intro v hv;clear hv;go_simp
     (try simp only[Act.put,lS,lZ,lC])
     refine uq (rs:=[4]) (by kernel_rfl) (by simp) ?_;refine uf rfl (fun K hK=>?_) um;go_simp;refine hK _ _ trivial (fun _=>?_);clear hK K y5;(try simp only[Act.put,lS,lZ,lC])
     refine uq (rs:=[8]) (by kernel_rfl) (by simp) ?_;refine uf rfl (fun K hK=>?_) um;go_simp;refine HC.out.mono ?_;rintro e W1 ⟨rfl,V1,h1,g1⟩;have H1:=lH h1;have G1:=lH (G0.out.trans g1);clear h1 g1;refine hK _ _ trivial (fun _=>?_);clear hK K;(try simp only[Act.put,lS,lZ,lC])
     refine tV (i:=9) (v:=.int .i64 ((k+q2:Nat):Int)) rfl (by kernel_rfl) (by kernel_rfl) (by kernel_rfl) (fun _ _ _ h=>h) (Or.inl ⟨by kernel_rfl,?hyh11⟩) trivial ?resth11
     case hyh11=>
      intro v hv;clear hv;go_simp
     (try simp only[Act.put,lS,lZ,lC])
     refine uq (rs:=[10]) (by kernel_rfl) (by simp) ?_;refine uf rfl (fun K hK=>?_) um;go_simp;refine hK _ _ trivial (fun _=>?_);clear hK K;(try simp only[Act.put,lS,lZ,lC])
     refine wpAnyH_done (by kernel_rfl) ?_ _;go_wp2_with fail
     go_roundw
     case rel=>
      refine⟨k+q2,f',q1,V1,by have:=HQL.out;omega,rfl,H1.out,HQK.out,?_,G1.out,?_,?_⟩
      ·rw[HPR.out,HTL.out,uo]
       exact Prod.ext rfl (uY _ _ _).symm
      ·have h1:=HF.out
       rw[if_pos HOP.out.symm] at h1;by_cases h0:q2=0
       ·rw[HQ0.out h0]
        simp;omega
       ·split<;>omega
      ·have h1:=HLO.out
       have h2:=HQO.out;have h3:q1.out.length<=sk.out.length+2:=h2;omega
     case measure=>
      rw[HM0.out,sQ H1.out.k];simp[intOf];have h1:=HQ0.out;have h2:=HQL.out;by_cases h3:q2=0
      ·rw[h1 h3]
       simp;omega
      ·split<;>omega
  ·have hk1:decide ((k:Int)<(S.size:Int))=false:=dF (by omega)
   have hke:k=S.size:=by omega
   have hfin:R=(sk,k):=by rw[HP.out,jm (Or.inl (by rw[List.drop_eq_nil_iff];rw[HN.out];omega))];rfl
   have HFI:=lH hfin;clear hfin hke;go_wp2_with (go_at_call 65;refine(ju HA.out).mono ?_;rintro e2 w2 ⟨rfl,h2,o2,g2⟩;have H2:=lH h2;have O2:=lH o2;have G2:=lH g2;clear h2 o2 g2)
   go_ret2
   refine⟨Vk.vo,_,by rw[HFI.out];rfl,by rw[HFI.out];exact H2.out,by rw[HFI.out];exact O2.out,HG.out.trans G2.out,rfl,by rw[HFI.out];exact kO HO.out,?_⟩;rw[HFI.out];have:=HLO.out;show sk.out.length<=_;omega
end Go.Proofs.YthjbodpeckebiaaGreatDoor
-- RbP
namespace Go.Proofs.YthjbodpeckebiaaGreatDoor
open Go.RowKit
end Go.Proofs.YthjbodpeckebiaaGreatDoor
-- BdN
namespace Go.Proofs.YthjbodpeckebiaaGreatDoor
open Go.RowKit
theorem aL (n:Int) (w:World):Calls Tryz.prog 76 #[.int .i64 n] w fun e w'=>e=.returned (.bool (decide (0<=n/\n<=65536)))/\w=w':=by
 by_cases h0:0<=n
 ·have d0:decide (n≥0)=true:=dT h0
  by_cases h1:n<=65536
  ·have d1:decide (n<=65536)=true:=dT h1
   rw[dT (And.intro h0 h1)];clear h0 h1;go_enter Tryz.func76,Tryz.ntmps76
   go_wp2_with fail
   go_ret;exact⟨rfl,rfl⟩
  ·have d1:decide (n<=65536)=false:=dF h1
   rw[dF (fun h:0<=n/\n<=65536=>h1 h.2)];clear h0 h1;go_enter Tryz.func76,Tryz.ntmps76
   go_wp2_with fail
   go_ret;exact⟨rfl,rfl⟩
 ·have d0:decide (n≥0)=false:=dF h0
  rw[dF (fun h:0<=n/\n<=65536=>h0 h.1)];clear h0;go_enter Tryz.func76,Tryz.ntmps76
  go_wp2_with fail
  go_ret;exact⟨rfl,rfl⟩
def ff (m:Lm) (len:Int):am:=⟨.nothing,len,eI m.line,[],[],false,false,0,[]⟩
def ja (D:Nat) (p:Value):bh:=⟨D,.slice none 0 0,.func (.func 75) #[.pointer (some ⟨D,0,none⟩)] #[],.slice none 0 0,p,.slice none 0 0,.slice none 0 0⟩
def qW (m:Lm):Array Value:=#[.int .i64 m.head,.int .i64 m.fields,.int .i64 m.line,.int .i64 m.body,.int .i64 m.fold]
def sP (kind len:Int):Obj:=.cells #[.int .i64 kind,.int .i64 len] 46
def ti (m:Lm):Obj:=.cells #[.int .i64 m.head,.int .i64 m.fields,.int .i64 m.line,.int .i64 m.body,.int .i64 m.fold] 24
structure g7 (w W:World) (D g:Nat) (m:Lm) (kind len:Int) (p:Value):Prop where
 a:ah W D w.heap.size m (ff m len) (ja D p)
 b:Below w.heap.size w W
 f:ac W w.heap.size #[.int .i64 kind,.int .i64 len] 46
 l:ac W (w.heap.size+1) (qW m) 24
 fD:w.heap.size≠D
 lD:w.heap.size+1≠D
theorem bn (w X:World) (m:Lm) (kind len:Int) (p:Value) (g:Nat) (hb:Below (w.heap.size+3) (((w.alloc (sP kind len)).alloc (ti m)).alloc (.cells (cy m (ff m len) (ja (w.heap.size+1+1) p)) 117)) X):
 g7 w X (w.heap.size+1+1) g m kind len p:=by
 have s3:(((w.alloc (sP kind len)).alloc (ti m)).alloc (.cells (cy m (ff m len) (ja (w.heap.size+1+1) p)) 117)).heap.size=w.heap.size+3:=by simp
 have k1:ac (((w.alloc (sP kind len)).alloc (ti m)).alloc (.cells (cy m (ff m len) (ja (w.heap.size+1+1) p)) 117)) w.heap.size #[.int .i64 kind,.int .i64 len] 46:=((ac.new w _ _).alloc _).alloc _;have k2:ac (((w.alloc (sP kind len)).alloc (ti m)).alloc (.cells (cy m (ff m len) (ja (w.heap.size+1+1) p)) 117)) (w.heap.size+1) (qW m) 24:=(ac.new' (w:=w.alloc (sP kind len)) (by simp)).alloc _;have k3:ac (((w.alloc (sP kind len)).alloc (ti m)).alloc (.cells (cy m (ff m len) (ja (w.heap.size+1+1) p)) 117)) (w.heap.size+1+1) (cy m (ff m len) (ja (w.heap.size+1+1) p)) 117:=ac.new' (w:=(w.alloc (sP kind len)).alloc (ti m)) (by simp);have hbw:Below w.heap.size w (((w.alloc (sP kind len)).alloc (ti m)).alloc (.cells (cy m (ff m len) (ja (w.heap.size+1+1) p)) 117)):=(((tU _ _).alloc (nR _) _).alloc (by simp) _).alloc (by simp;omega) _;rw[<-s3] at hb;have hne1:w.heap.size≠w.heap.size+1+1:=by omega
 have hne2:w.heap.size+1≠w.heap.size+1+1:=by omega
 exact⟨⟨k3.call hb,by omega,aU.start _ _,⟨ao.start _ _,aj.start _ _,fun _=>rfl,fun e=>(by cases e),fun _=>⟨rfl,rfl⟩,⟨_,_,_,rfl⟩⟩⟩,hbw.trans (hb.mono (by omega)),k1.call hb,k2.call hb,hne1,hne2⟩
theorem sJ {w W:World} {D g:Nat} {m:Lm} {kind len:Int} (h:g7 w W D g m kind len (.pointer (some ⟨g,0,none⟩))) (hg:ac W g ((eI m.line).row (.slice none 0 0)) 136) (h0:w.heap.size<=g):
 ah (W.setCell ⟨D,5,none⟩ (.func (.func 78) #[.pointer (some ⟨D,0,none⟩)] #[])) D w.heap.size m { ff m len with md:=.size } { ja D (.pointer (some ⟨g,0,none⟩)) with gl:=g,vn:=.func (.func 78) #[.pointer (some ⟨D,0,none⟩)] #[] }:=by
 have T:=aO W D 5 (.func (.func 78) #[.pointer (some ⟨D,0,none⟩)] #[]);have hgD:¬g=D:=fun e=>hg.ne h.a.k (by decide) e;exact⟨h.a.k.set 5 _,h.a.d,aU.start _ _,⟨ao.start _ _,aj.start _ _,fun _=>rfl,fun _=>⟨rfl,h0,⟨hg.touch T hgD,cm.start _ _,Nat.lt_succ_self _,(hg.touch T hgD).lt⟩⟩,fun e=>(by cases e),⟨_,_,_,rfl⟩⟩⟩
theorem au {w:World} {D n0:Nat} {m:Lm} {s:am} {V:bh} (h:ah w D n0 m s V) (i:Nat) (u:Value):Below n0 w (w.setCell ⟨D,i,none⟩ u):=h.below (V1:=V) ⟨(aO w D i u).mono (fun _ _ e=>Or.inl e),fun _ _ e=>e⟩
theorem tk (m:Lm) (kind len:Int) (w:World) (hl:m.line<0\/65536<m.line):
 Calls Tryz.prog 51 #[.agg #[.int .i64 kind,.int .i64 len],.agg #[.int .i64 m.head,.int .i64 m.fields,.int .i64 m.line,.int .i64 m.body,.int .i64 m.fold]] w fun e w'=>∃D V,e=.returned (.pointer (some ⟨D,0,none⟩))/\ah w' D w.heap.size m (aZ m kind len) V/\Below w.heap.size w w':=by
 have HN:=lH (lw m.line hl);have hdl:decide (0<=m.line/\m.line<=65536)=false:=dF (by omega);have hdh:(0:Int)=0:=rfl
 have hB:aZ m kind len=(ff m len).wrong 1:=by
  unfold aZ;simp only;rw[if_pos (by omega)];rfl
 rw[hB];clear hB hl;go_enter Tryz.func51,Tryz.ntmps51
 go_upto_region 4 with (go_at_call 68;refine(HN.out _).mono ?_;rintro e1 w1 ⟨rfl,h1⟩;subst h1)
 refine bV 4 ?_;intro W hW;have hBN:g7 w W (w.heap.size+1+1) 0 m kind len (.pointer none):=by rw[hW];exact bn w _ m kind len (.pointer none) 0 (tU _ _)
 clear hW HN;have yF0:W.cell? ⟨w.heap.size,0,none⟩=some (.int .i64 kind):=hBN.f.cell 0;have yF1:W.cell? ⟨w.heap.size,1,none⟩=some (.int .i64 len):=hBN.f.cell 1;have yL0:W.cell? ⟨w.heap.size+1,0,none⟩=some (.int .i64 m.head):=hBN.l.cell 0;have yL2:W.cell? ⟨w.heap.size+1,2,none⟩=some (.int .i64 m.line):=hBN.l.cell 2;have fD:=hBN.fD;have lD:=hBN.lD;have HBN:=lH hBN;generalize w.heap.size+1+1=D at HBN hBN fD lD ⊢;have y5:W.cell? ⟨D,5,none⟩=some (.func (.func 75) #[.pointer (some ⟨D,0,none⟩)] #[]):=hBN.a.k.cell 5;have y7:W.cell? ⟨D,7,none⟩=some (.int .i64 len):=hBN.a.k.cell 7;have y11:W.cell? ⟨D,11,none⟩=some (.bool false):=hBN.a.k.cell 11;have y12:W.cell? ⟨D,12,none⟩=some (.bool false):=hBN.a.k.cell 12;have y13:W.cell? ⟨D,13,none⟩=some (.int .i64 0):=hBN.a.k.cell 13;have z5:W.frozen? ⟨D,5,none⟩=false:=hBN.a.k.froz 5;have z11:W.frozen? ⟨D,11,none⟩=false:=hBN.a.k.froz 11;have z12:W.frozen? ⟨D,12,none⟩=false:=hBN.a.k.froz 12;have z13:W.frozen? ⟨D,13,none⟩=false:=hBN.a.k.froz 13;by_cases h1:len<0
 ·have d1:decide (len<0)=true:=dT h1
  clear h1;have h13:ah (W.setCell ⟨D,13,none⟩ (.int .i64 1)) D w.heap.size m { ff m len with e:=1 } (ja D (.pointer none)):=hBN.a.set 13 _ rfl rfl rfl rfl rfl rfl rfl (fun e=>(by cases e)) (fun e=>(by cases e)) (fun _=>⟨rfl,rfl⟩) ⟨_,_,_,rfl⟩;have HC:=lH (bk h13 (tX _) ⟨5,1,⟨#[]⟩⟩);have HH:=lH h13;clear hBN h13;go_wp2_with (first|(go_at_call 76;refine(aL _ _).mono ?_;simp only[hdl,hdh];rintro e2 w2 ⟨rfl,rfl⟩)|(go_at_call 80;refine HC.out.mono ?_;rintro e3 w3 ⟨rfl,vo,h3,g3⟩;have H3:=lH h3;have G3:=lH g3;clear h3 g3))
  go_ret;exact⟨D,_,rfl,H3.out,(HBN.out.b.trans (au HBN.out.a 13 _)).trans (HH.out.below G3.out)⟩
 ·have d1:decide (len<0)=false:=dF (by omega)
  clear h1;have h13:ah (W.setCell ⟨D,13,none⟩ (.int .i64 1)) D w.heap.size m { ff m len with e:=1 } (ja D (.pointer none)):=hBN.a.set 13 _ rfl rfl rfl rfl rfl rfl rfl (fun e=>(by cases e)) (fun e=>(by cases e)) (fun _=>⟨rfl,rfl⟩) ⟨_,_,_,rfl⟩;have HC:=lH (bk h13 (tX _) ⟨5,1,⟨#[]⟩⟩);have HH:=lH h13;clear hBN h13;go_wp2_with (first|(go_at_call 76;refine(aL _ _).mono ?_;simp only[hdl,hdh];rintro e2 w2 ⟨rfl,rfl⟩)|(go_at_call 80;refine HC.out.mono ?_;rintro e3 w3 ⟨rfl,vo,h3,g3⟩;have H3:=lH h3;have G3:=lH g3;clear h3 g3))
  go_ret;exact⟨D,_,rfl,H3.out,(HBN.out.b.trans (au HBN.out.a 13 _)).trans (HH.out.below G3.out)⟩
theorem qF (m:Lm) (kind len:Int) (w:World) (h0:0<=m.line) (h1:m.line<=65536) (hl:len<0):
 Calls Tryz.prog 51 #[.agg #[.int .i64 kind,.int .i64 len],.agg #[.int .i64 m.head,.int .i64 m.fields,.int .i64 m.line,.int .i64 m.body,.int .i64 m.fold]] w fun e w'=>∃D V,e=.returned (.pointer (some ⟨D,0,none⟩))/\ah w' D w.heap.size m (aZ m kind len) V/\Below w.heap.size w w':=by
 have HN:=lH (ba m.line h0 h1);have hdl:decide (0<=m.line/\m.line<=65536)=true:=dT ⟨h0,h1⟩;have hdh:(0:Int)=0:=rfl;have d1:decide (len<0)=true:=dT hl
 have hB:aZ m kind len=(ff m len).wrong 1:=by
  unfold aZ;simp only;rw[if_pos (by omega)];rfl
 rw[hB];clear hB h0 h1 hl;go_enter Tryz.func51,Tryz.ntmps51
 go_upto_region 4 with (go_at_call 68;refine(HN.out _).mono ?_;rintro e1 w1 ⟨rfl,h1⟩;subst h1)
 refine bV 4 ?_;intro W hW;have hBN:g7 w W (w.heap.size+1+1) (w.heap.size+3) m kind len (.pointer (some ⟨w.heap.size+3,0,none⟩)):=by rw[hW];exact bn w _ m kind len (.pointer (some ⟨w.heap.size+3,0,none⟩)) (w.heap.size+3) ((tU _ _).alloc (by simp) _)
 have hg:ac W (w.heap.size+3) ((eI m.line).row (.slice none 0 0)) 136:=by rw[hW];exact ac.new' (by simp)
 have hg0:w.heap.size<=w.heap.size+3:=by omega
 clear hW HN;have HG:=lH hg;have HG0:=lH hg0;clear hg hg0;generalize w.heap.size+3=g at hBN HG HG0;have yF0:W.cell? ⟨w.heap.size,0,none⟩=some (.int .i64 kind):=hBN.f.cell 0;have yF1:W.cell? ⟨w.heap.size,1,none⟩=some (.int .i64 len):=hBN.f.cell 1;have yL0:W.cell? ⟨w.heap.size+1,0,none⟩=some (.int .i64 m.head):=hBN.l.cell 0;have yL2:W.cell? ⟨w.heap.size+1,2,none⟩=some (.int .i64 m.line):=hBN.l.cell 2;have fD:=hBN.fD;have lD:=hBN.lD;have HBN:=lH hBN;generalize w.heap.size+1+1=D at HBN hBN fD lD ⊢;have y5:W.cell? ⟨D,5,none⟩=some (.func (.func 75) #[.pointer (some ⟨D,0,none⟩)] #[]):=hBN.a.k.cell 5;have y7:W.cell? ⟨D,7,none⟩=some (.int .i64 len):=hBN.a.k.cell 7;have y11:W.cell? ⟨D,11,none⟩=some (.bool false):=hBN.a.k.cell 11;have y12:W.cell? ⟨D,12,none⟩=some (.bool false):=hBN.a.k.cell 12;have y13:W.cell? ⟨D,13,none⟩=some (.int .i64 0):=hBN.a.k.cell 13;have z5:W.frozen? ⟨D,5,none⟩=false:=hBN.a.k.froz 5;have z11:W.frozen? ⟨D,11,none⟩=false:=hBN.a.k.froz 11;have z12:W.frozen? ⟨D,12,none⟩=false:=hBN.a.k.froz 12;have z13:W.frozen? ⟨D,13,none⟩=false:=hBN.a.k.froz 13;have h13:ah (W.setCell ⟨D,13,none⟩ (.int .i64 1)) D w.heap.size m { ff m len with e:=1 } (ja D (.pointer (some ⟨g,0,none⟩))):=hBN.a.set 13 _ rfl rfl rfl rfl rfl rfl rfl (fun e=>(by cases e)) (fun e=>(by cases e)) (fun _=>⟨rfl,rfl⟩) ⟨_,_,_,rfl⟩;have HC:=lH (bk h13 (tX _) ⟨5,1,⟨#[]⟩⟩)
 have HH:=lH h13;clear hBN h13;go_wp2_with (first|(go_at_call 76;refine(aL _ _).mono ?_;simp only[hdl,hdh];rintro e2 w2 ⟨rfl,rfl⟩)|(go_at_call 80;refine HC.out.mono ?_;rintro e3 w3 ⟨rfl,vo,h3,g3⟩;have H3:=lH h3;have G3:=lH g3;clear h3 g3))
 go_ret;exact⟨D,_,rfl,H3.out,(HBN.out.b.trans (au HBN.out.a 13 _)).trans (HH.out.below G3.out)⟩
theorem ou (m:Lm) (kind len:Int) (w:World) (h0:0<=m.line) (h1:m.line<=65536) (hl:0<=len) (hh:m.head<0\/65536<m.head):
 Calls Tryz.prog 51 #[.agg #[.int .i64 kind,.int .i64 len],.agg #[.int .i64 m.head,.int .i64 m.fields,.int .i64 m.line,.int .i64 m.body,.int .i64 m.fold]] w fun e w'=>∃D V,e=.returned (.pointer (some ⟨D,0,none⟩))/\ah w' D w.heap.size m (aZ m kind len) V/\Below w.heap.size w w':=by
 have HN:=lH (ba m.line h0 h1);have hdl:decide (0<=m.line/\m.line<=65536)=true:=dT ⟨h0,h1⟩;have hdh:decide (0<=m.head/\m.head<=65536)=false:=dF (by omega);have d1:decide (len<0)=false:=dF (by omega)
 have hB:aZ m kind len=(ff m len).wrong 1:=by
  unfold aZ;simp only;rw[if_pos (by omega)];rfl
 rw[hB];clear hB h0 h1 hl hh;go_enter Tryz.func51,Tryz.ntmps51
 go_upto_region 4 with (go_at_call 68;refine(HN.out _).mono ?_;rintro e1 w1 ⟨rfl,h1⟩;subst h1)
 refine bV 4 ?_;intro W hW;have hBN:g7 w W (w.heap.size+1+1) (w.heap.size+3) m kind len (.pointer (some ⟨w.heap.size+3,0,none⟩)):=by rw[hW];exact bn w _ m kind len (.pointer (some ⟨w.heap.size+3,0,none⟩)) (w.heap.size+3) ((tU _ _).alloc (by simp) _)
 have hg:ac W (w.heap.size+3) ((eI m.line).row (.slice none 0 0)) 136:=by rw[hW];exact ac.new' (by simp)
 have hg0:w.heap.size<=w.heap.size+3:=by omega
 clear hW HN;have HG:=lH hg;have HG0:=lH hg0;clear hg hg0;generalize w.heap.size+3=g at hBN HG HG0;have yF0:W.cell? ⟨w.heap.size,0,none⟩=some (.int .i64 kind):=hBN.f.cell 0;have yF1:W.cell? ⟨w.heap.size,1,none⟩=some (.int .i64 len):=hBN.f.cell 1;have yL0:W.cell? ⟨w.heap.size+1,0,none⟩=some (.int .i64 m.head):=hBN.l.cell 0;have yL2:W.cell? ⟨w.heap.size+1,2,none⟩=some (.int .i64 m.line):=hBN.l.cell 2;have fD:=hBN.fD;have lD:=hBN.lD;have HBN:=lH hBN;generalize w.heap.size+1+1=D at HBN hBN fD lD ⊢;have y5:W.cell? ⟨D,5,none⟩=some (.func (.func 75) #[.pointer (some ⟨D,0,none⟩)] #[]):=hBN.a.k.cell 5;have y7:W.cell? ⟨D,7,none⟩=some (.int .i64 len):=hBN.a.k.cell 7;have y11:W.cell? ⟨D,11,none⟩=some (.bool false):=hBN.a.k.cell 11;have y12:W.cell? ⟨D,12,none⟩=some (.bool false):=hBN.a.k.cell 12;have y13:W.cell? ⟨D,13,none⟩=some (.int .i64 0):=hBN.a.k.cell 13;have z5:W.frozen? ⟨D,5,none⟩=false:=hBN.a.k.froz 5;have z11:W.frozen? ⟨D,11,none⟩=false:=hBN.a.k.froz 11;have z12:W.frozen? ⟨D,12,none⟩=false:=hBN.a.k.froz 12;have z13:W.frozen? ⟨D,13,none⟩=false:=hBN.a.k.froz 13;have h13:ah (W.setCell ⟨D,13,none⟩ (.int .i64 1)) D w.heap.size m { ff m len with e:=1 } (ja D (.pointer (some ⟨g,0,none⟩))):=hBN.a.set 13 _ rfl rfl rfl rfl rfl rfl rfl (fun e=>(by cases e)) (fun e=>(by cases e)) (fun _=>⟨rfl,rfl⟩) ⟨_,_,_,rfl⟩;have HC:=lH (bk h13 (tX _) ⟨5,1,⟨#[]⟩⟩)
 have HH:=lH h13;clear hBN h13;go_wp2_with (first|(go_at_call 76;refine(aL _ _).mono ?_;simp only[hdl,hdh];rintro e2 w2 ⟨rfl,rfl⟩)|(go_at_call 80;refine HC.out.mono ?_;rintro e3 w3 ⟨rfl,vo,h3,g3⟩;have H3:=lH h3;have G3:=lH g3;clear h3 g3))
 go_ret;exact⟨D,_,rfl,H3.out,(HBN.out.b.trans (au HBN.out.a 13 _)).trans (HH.out.below G3.out)⟩
theorem ow (m:Lm) (kind len:Int) (w:World) (h0:0<=m.line) (h1:m.line<=65536) (hl:0<=len) (hh0:0<=m.head) (hh1:m.head<=65536) (hk:kind=0):
 Calls Tryz.prog 51 #[.agg #[.int .i64 kind,.int .i64 len],.agg #[.int .i64 m.head,.int .i64 m.fields,.int .i64 m.line,.int .i64 m.body,.int .i64 m.fold]] w fun e w'=>∃D V,e=.returned (.pointer (some ⟨D,0,none⟩))/\ah w' D w.heap.size m (aZ m kind len) V/\Below w.heap.size w w':=by
 have HN:=lH (ba m.line h0 h1);have hdl:decide (0<=m.line/\m.line<=65536)=true:=dT ⟨h0,h1⟩;have hdh:decide (0<=m.head/\m.head<=65536)=true:=dT ⟨hh0,hh1⟩;have d1:decide (len<0)=false:=dF (by omega);have e0:(kind==0)=true:=by simp[hk]
 have e1:(kind==1)=false:=by simp[hk]
 have e2:(kind==2)=false:=by simp[hk]
 have e3:(kind==3)=false:=by simp[hk]
 have hB:aZ m kind len=(ff m len).ends:=by
  unfold aZ;simp only;rw[if_neg (by omega)];rw[if_pos hk];rfl
 rw[hB];clear hB h0 h1 hl hh0 hh1 hk;go_enter Tryz.func51,Tryz.ntmps51
 go_upto_region 4 with (go_at_call 68;refine(HN.out _).mono ?_;rintro e1 w1 ⟨rfl,h1⟩;subst h1)
 refine bV 4 ?_;intro W hW;have hBN:g7 w W (w.heap.size+1+1) (w.heap.size+3) m kind len (.pointer (some ⟨w.heap.size+3,0,none⟩)):=by rw[hW];exact bn w _ m kind len (.pointer (some ⟨w.heap.size+3,0,none⟩)) (w.heap.size+3) ((tU _ _).alloc (by simp) _)
 have hg:ac W (w.heap.size+3) ((eI m.line).row (.slice none 0 0)) 136:=by rw[hW];exact ac.new' (by simp)
 have hg0:w.heap.size<=w.heap.size+3:=by omega
 clear hW HN;have HG:=lH hg;have HG0:=lH hg0;clear hg hg0;generalize w.heap.size+3=g at hBN HG HG0;have yF0:W.cell? ⟨w.heap.size,0,none⟩=some (.int .i64 kind):=hBN.f.cell 0;have yF1:W.cell? ⟨w.heap.size,1,none⟩=some (.int .i64 len):=hBN.f.cell 1;have yL0:W.cell? ⟨w.heap.size+1,0,none⟩=some (.int .i64 m.head):=hBN.l.cell 0;have yL2:W.cell? ⟨w.heap.size+1,2,none⟩=some (.int .i64 m.line):=hBN.l.cell 2;have fD:=hBN.fD;have lD:=hBN.lD;have HBN:=lH hBN;generalize w.heap.size+1+1=D at HBN hBN fD lD ⊢;have y5:W.cell? ⟨D,5,none⟩=some (.func (.func 75) #[.pointer (some ⟨D,0,none⟩)] #[]):=hBN.a.k.cell 5;have y7:W.cell? ⟨D,7,none⟩=some (.int .i64 len):=hBN.a.k.cell 7;have y11:W.cell? ⟨D,11,none⟩=some (.bool false):=hBN.a.k.cell 11;have y12:W.cell? ⟨D,12,none⟩=some (.bool false):=hBN.a.k.cell 12;have y13:W.cell? ⟨D,13,none⟩=some (.int .i64 0):=hBN.a.k.cell 13;have z5:W.frozen? ⟨D,5,none⟩=false:=hBN.a.k.froz 5;have z11:W.frozen? ⟨D,11,none⟩=false:=hBN.a.k.froz 11;have z12:W.frozen? ⟨D,12,none⟩=false:=hBN.a.k.froz 12;have z13:W.frozen? ⟨D,13,none⟩=false:=hBN.a.k.froz 13;have h12:ah (W.setCell ⟨D,12,none⟩ (.bool true)) D w.heap.size m { ff m len with over:=true } (ja D (.pointer (some ⟨g,0,none⟩))):=hBN.a.set 12 _ rfl rfl rfl rfl rfl rfl rfl (fun e=>(by cases e)) (fun e=>(by cases e)) (fun _=>⟨rfl,rfl⟩) ⟨_,_,_,rfl⟩;have HC:=lH (bk h12 (tX _) ⟨4,0,⟨#[]⟩⟩)
 have HH:=lH h12;clear hBN h12;go_wp2_with (first|(go_at_call 76;refine(aL _ _).mono ?_;simp only[hdl,hdh];rintro e2 w2 ⟨rfl,rfl⟩)|(go_at_call 80;refine HC.out.mono ?_;rintro e3 w3 ⟨rfl,vo,h3,g3⟩;have H3:=lH h3;have G3:=lH g3;have q13:w3.cell? ⟨D,13,none⟩=some (.int .i64 0):=h3.k.cell 13;clear h3 g3))
 go_ret;exact⟨D,_,rfl,H3.out,(HBN.out.b.trans (au HBN.out.a 12 _)).trans (HH.out.below G3.out)⟩
theorem kQ (m:Lm) (kind len:Int) (w:World) (h0:0<=m.line) (h1:m.line<=65536) (hl:0<=len) (hh0:0<=m.head) (hh1:m.head<=65536) (hk:kind=1) (hz:len=0):
 Calls Tryz.prog 51 #[.agg #[.int .i64 kind,.int .i64 len],.agg #[.int .i64 m.head,.int .i64 m.fields,.int .i64 m.line,.int .i64 m.body,.int .i64 m.fold]] w fun e w'=>∃D V,e=.returned (.pointer (some ⟨D,0,none⟩))/\ah w' D w.heap.size m (aZ m kind len) V/\Below w.heap.size w w':=by
 have HN:=lH (ba m.line h0 h1);have hdl:decide (0<=m.line/\m.line<=65536)=true:=dT ⟨h0,h1⟩;have hdh:decide (0<=m.head/\m.head<=65536)=true:=dT ⟨hh0,hh1⟩;have d1:decide (len<0)=false:=dF (by omega);have e0:(kind==0)=false:=by simp[hk]
 have e1:(kind==1)=true:=by simp[hk]
 have e2:(kind==2)=false:=by simp[hk]
 have e3:(kind==3)=false:=by simp[hk]
 have ez:(len==0)=true:=by simp[hz]
 have hB:aZ m kind len=({ ff m len with md:=.sized }:am).ends:=by
  unfold aZ;simp only;rw[if_neg (by omega)];rw[if_neg (by omega),if_pos hk,if_pos hz];rfl
 rw[hB];clear hB h0 h1 hl hh0 hh1 hk hz;go_enter Tryz.func51,Tryz.ntmps51
 go_upto_region 4 with (go_at_call 68;refine(HN.out _).mono ?_;rintro e1 w1 ⟨rfl,h1⟩;subst h1)
 refine bV 4 ?_;intro W hW;have hBN:g7 w W (w.heap.size+1+1) (w.heap.size+3) m kind len (.pointer (some ⟨w.heap.size+3,0,none⟩)):=by rw[hW];exact bn w _ m kind len (.pointer (some ⟨w.heap.size+3,0,none⟩)) (w.heap.size+3) ((tU _ _).alloc (by simp) _)
 have hg:ac W (w.heap.size+3) ((eI m.line).row (.slice none 0 0)) 136:=by rw[hW];exact ac.new' (by simp)
 have hg0:w.heap.size<=w.heap.size+3:=by omega
 clear hW HN;have HG:=lH hg;have HG0:=lH hg0;clear hg hg0;generalize w.heap.size+3=g at hBN HG HG0;have yF0:W.cell? ⟨w.heap.size,0,none⟩=some (.int .i64 kind):=hBN.f.cell 0;have yF1:W.cell? ⟨w.heap.size,1,none⟩=some (.int .i64 len):=hBN.f.cell 1;have yL0:W.cell? ⟨w.heap.size+1,0,none⟩=some (.int .i64 m.head):=hBN.l.cell 0;have yL2:W.cell? ⟨w.heap.size+1,2,none⟩=some (.int .i64 m.line):=hBN.l.cell 2;have fD:=hBN.fD;have lD:=hBN.lD;have HBN:=lH hBN;generalize w.heap.size+1+1=D at HBN hBN fD lD ⊢;have y5:W.cell? ⟨D,5,none⟩=some (.func (.func 75) #[.pointer (some ⟨D,0,none⟩)] #[]):=hBN.a.k.cell 5;have y7:W.cell? ⟨D,7,none⟩=some (.int .i64 len):=hBN.a.k.cell 7;have y11:W.cell? ⟨D,11,none⟩=some (.bool false):=hBN.a.k.cell 11;have y12:W.cell? ⟨D,12,none⟩=some (.bool false):=hBN.a.k.cell 12;have y13:W.cell? ⟨D,13,none⟩=some (.int .i64 0):=hBN.a.k.cell 13;have z5:W.frozen? ⟨D,5,none⟩=false:=hBN.a.k.froz 5;have z11:W.frozen? ⟨D,11,none⟩=false:=hBN.a.k.froz 11;have z12:W.frozen? ⟨D,12,none⟩=false:=hBN.a.k.froz 12;have z13:W.frozen? ⟨D,13,none⟩=false:=hBN.a.k.froz 13;have h5:ah (W.setCell ⟨D,5,none⟩ (.func (.func 77) #[.pointer (some ⟨D,0,none⟩)] #[])) D w.heap.size m { ff m len with md:=.sized } { ja D (.pointer (some ⟨g,0,none⟩)) with vn:=.func (.func 77) #[.pointer (some ⟨D,0,none⟩)] #[] }:=hBN.a.set 5 _ rfl rfl rfl rfl rfl rfl rfl (fun _=>rfl) (fun e=>(by cases e)) (fun _=>⟨rfl,rfl⟩) ⟨_,_,_,rfl⟩
 have h12:ah ((W.setCell ⟨D,5,none⟩ (.func (.func 77) #[.pointer (some ⟨D,0,none⟩)] #[])).setCell ⟨D,12,none⟩ (.bool true)) D w.heap.size m { ff m len with md:=.sized,over:=true } { ja D (.pointer (some ⟨g,0,none⟩)) with vn:=.func (.func 77) #[.pointer (some ⟨D,0,none⟩)] #[] }:=h5.set 12 _ rfl rfl rfl rfl rfl rfl rfl (fun e=>(by cases e)) (fun e=>(by cases e)) (fun _=>⟨rfl,rfl⟩) ⟨_,_,_,rfl⟩;have HC:=lH (bk h12 (tX _) ⟨4,0,⟨#[]⟩⟩);have HH:=lH h12;have H5:=lH h5;clear hBN h12 h5;go_wp2_with (first|(go_at_call 76;refine(aL _ _).mono ?_;simp only[hdl,hdh];rintro e2 w2 ⟨rfl,rfl⟩)|(go_at_call 80;refine HC.out.mono ?_;rintro e3 w3 ⟨rfl,vo,h3,g3⟩;have H3:=lH h3;have G3:=lH g3;have q13:w3.cell? ⟨D,13,none⟩=some (.int .i64 0):=h3.k.cell 13;clear h3 g3))
 go_ret;exact⟨D,_,rfl,H3.out,((HBN.out.b.trans (au HBN.out.a 5 _)).trans (au H5.out 12 _)).trans (HH.out.below G3.out)⟩
theorem kS (m:Lm) (kind len:Int) (w:World) (h0:0<=m.line) (h1:m.line<=65536) (hl:0<=len) (hh0:0<=m.head) (hh1:m.head<=65536) (hk:kind=1) (hz:len≠0):
 Calls Tryz.prog 51 #[.agg #[.int .i64 kind,.int .i64 len],.agg #[.int .i64 m.head,.int .i64 m.fields,.int .i64 m.line,.int .i64 m.body,.int .i64 m.fold]] w fun e w'=>∃D V,e=.returned (.pointer (some ⟨D,0,none⟩))/\ah w' D w.heap.size m (aZ m kind len) V/\Below w.heap.size w w':=by
 have HN:=lH (ba m.line h0 h1);have hdl:decide (0<=m.line/\m.line<=65536)=true:=dT ⟨h0,h1⟩;have hdh:decide (0<=m.head/\m.head<=65536)=true:=dT ⟨hh0,hh1⟩;have d1:decide (len<0)=false:=dF (by omega);have e0:(kind==0)=false:=by simp[hk]
 have e1:(kind==1)=true:=by simp[hk]
 have e2:(kind==2)=false:=by simp[hk]
 have e3:(kind==3)=false:=by simp[hk]
 have ez:(len==0)=false:=by simp[hz]
 have hB:aZ m kind len={ ff m len with md:=.sized }:=by
  unfold aZ;simp only;rw[if_neg (by omega)];rw[if_neg (by omega),if_pos hk,if_neg hz];rfl
 rw[hB];clear hB h0 h1 hl hh0 hh1 hk hz;go_enter Tryz.func51,Tryz.ntmps51
 go_upto_region 4 with (go_at_call 68;refine(HN.out _).mono ?_;rintro e1 w1 ⟨rfl,h1⟩;subst h1)
 refine bV 4 ?_;intro W hW;have hBN:g7 w W (w.heap.size+1+1) (w.heap.size+3) m kind len (.pointer (some ⟨w.heap.size+3,0,none⟩)):=by rw[hW];exact bn w _ m kind len (.pointer (some ⟨w.heap.size+3,0,none⟩)) (w.heap.size+3) ((tU _ _).alloc (by simp) _)
 have hg:ac W (w.heap.size+3) ((eI m.line).row (.slice none 0 0)) 136:=by rw[hW];exact ac.new' (by simp)
 have hg0:w.heap.size<=w.heap.size+3:=by omega
 clear hW HN;have HG:=lH hg;have HG0:=lH hg0;clear hg hg0;generalize w.heap.size+3=g at hBN HG HG0;have yF0:W.cell? ⟨w.heap.size,0,none⟩=some (.int .i64 kind):=hBN.f.cell 0;have yF1:W.cell? ⟨w.heap.size,1,none⟩=some (.int .i64 len):=hBN.f.cell 1;have yL0:W.cell? ⟨w.heap.size+1,0,none⟩=some (.int .i64 m.head):=hBN.l.cell 0;have yL2:W.cell? ⟨w.heap.size+1,2,none⟩=some (.int .i64 m.line):=hBN.l.cell 2;have fD:=hBN.fD;have lD:=hBN.lD;have HBN:=lH hBN;generalize w.heap.size+1+1=D at HBN hBN fD lD ⊢;have y5:W.cell? ⟨D,5,none⟩=some (.func (.func 75) #[.pointer (some ⟨D,0,none⟩)] #[]):=hBN.a.k.cell 5;have y7:W.cell? ⟨D,7,none⟩=some (.int .i64 len):=hBN.a.k.cell 7;have y11:W.cell? ⟨D,11,none⟩=some (.bool false):=hBN.a.k.cell 11;have y12:W.cell? ⟨D,12,none⟩=some (.bool false):=hBN.a.k.cell 12;have y13:W.cell? ⟨D,13,none⟩=some (.int .i64 0):=hBN.a.k.cell 13;have z5:W.frozen? ⟨D,5,none⟩=false:=hBN.a.k.froz 5;have z11:W.frozen? ⟨D,11,none⟩=false:=hBN.a.k.froz 11;have z12:W.frozen? ⟨D,12,none⟩=false:=hBN.a.k.froz 12;have z13:W.frozen? ⟨D,13,none⟩=false:=hBN.a.k.froz 13;have h5:ah (W.setCell ⟨D,5,none⟩ (.func (.func 77) #[.pointer (some ⟨D,0,none⟩)] #[])) D w.heap.size m { ff m len with md:=.sized } { ja D (.pointer (some ⟨g,0,none⟩)) with vn:=.func (.func 77) #[.pointer (some ⟨D,0,none⟩)] #[] }:=hBN.a.set 5 _ rfl rfl rfl rfl rfl rfl rfl (fun _=>rfl) (fun e=>(by cases e)) (fun _=>⟨rfl,rfl⟩) ⟨_,_,_,rfl⟩
 have h12:ah ((W.setCell ⟨D,5,none⟩ (.func (.func 77) #[.pointer (some ⟨D,0,none⟩)] #[])).setCell ⟨D,12,none⟩ (.bool false)) D w.heap.size m { ff m len with md:=.sized } { ja D (.pointer (some ⟨g,0,none⟩)) with vn:=.func (.func 77) #[.pointer (some ⟨D,0,none⟩)] #[] }:=h5.set 12 _ rfl rfl rfl rfl rfl rfl rfl (fun _=>rfl) (fun e=>(by cases e)) (fun _=>⟨rfl,rfl⟩) ⟨_,_,_,rfl⟩;have HH:=lH h12;have H5:=lH h5;clear hBN h12 h5;go_wp2_with (go_at_call 76;refine(aL _ _).mono ?_;simp only[hdl,hdh];rintro e2 w2 ⟨rfl,rfl⟩)
 go_ret;exact⟨D,_,rfl,HH.out,(HBN.out.b.trans (au HBN.out.a 5 _)).trans (au H5.out 12 _)⟩
theorem j9 (m:Lm) (kind len:Int) (w:World) (h0:0<=m.line) (h1:m.line<=65536) (hl:0<=len) (hh0:0<=m.head) (hh1:m.head<=65536) (hk:kind=2):
 Calls Tryz.prog 51 #[.agg #[.int .i64 kind,.int .i64 len],.agg #[.int .i64 m.head,.int .i64 m.fields,.int .i64 m.line,.int .i64 m.body,.int .i64 m.fold]] w fun e w'=>∃D V,e=.returned (.pointer (some ⟨D,0,none⟩))/\ah w' D w.heap.size m (aZ m kind len) V/\Below w.heap.size w w':=by
 have HN:=lH (ba m.line h0 h1);have hdl:decide (0<=m.line/\m.line<=65536)=true:=dT ⟨h0,h1⟩;have hdh:decide (0<=m.head/\m.head<=65536)=true:=dT ⟨hh0,hh1⟩;have d1:decide (len<0)=false:=dF (by omega);have e0:(kind==0)=false:=by simp[hk]
 have e1:(kind==1)=false:=by simp[hk]
 have e2:(kind==2)=true:=by simp[hk]
 have e3:(kind==3)=false:=by simp[hk]
 have hB:aZ m kind len={ ff m len with md:=.size }:=by
  unfold aZ;simp only;rw[if_neg (by omega)];rw[if_neg (by omega),if_neg (by omega),if_pos hk];rfl
 rw[hB];clear hB h0 h1 hl hh0 hh1 hk;go_enter Tryz.func51,Tryz.ntmps51
 go_upto_region 4 with (go_at_call 68;refine(HN.out _).mono ?_;rintro e1 w1 ⟨rfl,h1⟩;subst h1)
 refine bV 4 ?_;intro W hW;have hBN:g7 w W (w.heap.size+1+1) (w.heap.size+3) m kind len (.pointer (some ⟨w.heap.size+3,0,none⟩)):=by rw[hW];exact bn w _ m kind len (.pointer (some ⟨w.heap.size+3,0,none⟩)) (w.heap.size+3) ((tU _ _).alloc (by simp) _)
 have hg:ac W (w.heap.size+3) ((eI m.line).row (.slice none 0 0)) 136:=by rw[hW];exact ac.new' (by simp)
 have hg0:w.heap.size<=w.heap.size+3:=by omega
 clear hW HN;have HG:=lH hg;have HG0:=lH hg0;clear hg hg0;generalize w.heap.size+3=g at hBN HG HG0;have yF0:W.cell? ⟨w.heap.size,0,none⟩=some (.int .i64 kind):=hBN.f.cell 0;have yF1:W.cell? ⟨w.heap.size,1,none⟩=some (.int .i64 len):=hBN.f.cell 1;have yL0:W.cell? ⟨w.heap.size+1,0,none⟩=some (.int .i64 m.head):=hBN.l.cell 0;have yL2:W.cell? ⟨w.heap.size+1,2,none⟩=some (.int .i64 m.line):=hBN.l.cell 2;have fD:=hBN.fD;have lD:=hBN.lD;have HBN:=lH hBN;generalize w.heap.size+1+1=D at HBN hBN fD lD ⊢;have y5:W.cell? ⟨D,5,none⟩=some (.func (.func 75) #[.pointer (some ⟨D,0,none⟩)] #[]):=hBN.a.k.cell 5;have y7:W.cell? ⟨D,7,none⟩=some (.int .i64 len):=hBN.a.k.cell 7;have y11:W.cell? ⟨D,11,none⟩=some (.bool false):=hBN.a.k.cell 11;have y12:W.cell? ⟨D,12,none⟩=some (.bool false):=hBN.a.k.cell 12;have y13:W.cell? ⟨D,13,none⟩=some (.int .i64 0):=hBN.a.k.cell 13;have z5:W.frozen? ⟨D,5,none⟩=false:=hBN.a.k.froz 5;have z11:W.frozen? ⟨D,11,none⟩=false:=hBN.a.k.froz 11;have z12:W.frozen? ⟨D,12,none⟩=false:=hBN.a.k.froz 12;have z13:W.frozen? ⟨D,13,none⟩=false:=hBN.a.k.froz 13;have HH:=lH (sJ hBN HG.out HG0.out);clear hBN;go_wp2_with (go_at_call 76;refine(aL _ _).mono ?_;simp only[hdl,hdh];rintro e2 w2 ⟨rfl,rfl⟩)
 go_ret;exact⟨D,_,rfl,HH.out,HBN.out.b.trans (au HBN.out.a 5 _)⟩
theorem ml (m:Lm) (kind len:Int) (w:World) (h0:0<=m.line) (h1:m.line<=65536) (hl:0<=len) (hh0:0<=m.head) (hh1:m.head<=65536) (hk:kind=3):
 Calls Tryz.prog 51 #[.agg #[.int .i64 kind,.int .i64 len],.agg #[.int .i64 m.head,.int .i64 m.fields,.int .i64 m.line,.int .i64 m.body,.int .i64 m.fold]] w fun e w'=>∃D V,e=.returned (.pointer (some ⟨D,0,none⟩))/\ah w' D w.heap.size m (aZ m kind len) V/\Below w.heap.size w w':=by
 have HN:=lH (ba m.line h0 h1);have hdl:decide (0<=m.line/\m.line<=65536)=true:=dT ⟨h0,h1⟩;have hdh:decide (0<=m.head/\m.head<=65536)=true:=dT ⟨hh0,hh1⟩;have d1:decide (len<0)=false:=dF (by omega);have e0:(kind==0)=false:=by simp[hk]
 have e1:(kind==1)=false:=by simp[hk]
 have e2:(kind==2)=false:=by simp[hk]
 have e3:(kind==3)=true:=by simp[hk]
 have hB:aZ m kind len={ ff m len with md:=.rest,till:=true }:=by
  unfold aZ;simp only;rw[if_neg (by omega)];rw[if_neg (by omega),if_neg (by omega),if_neg (by omega),if_pos hk];rfl
 rw[hB];clear hB h0 h1 hl hh0 hh1 hk;go_enter Tryz.func51,Tryz.ntmps51
 go_upto_region 4 with (go_at_call 68;refine(HN.out _).mono ?_;rintro e1 w1 ⟨rfl,h1⟩;subst h1)
 refine bV 4 ?_;intro W hW;have hBN:g7 w W (w.heap.size+1+1) (w.heap.size+3) m kind len (.pointer (some ⟨w.heap.size+3,0,none⟩)):=by rw[hW];exact bn w _ m kind len (.pointer (some ⟨w.heap.size+3,0,none⟩)) (w.heap.size+3) ((tU _ _).alloc (by simp) _)
 have hg:ac W (w.heap.size+3) ((eI m.line).row (.slice none 0 0)) 136:=by rw[hW];exact ac.new' (by simp)
 have hg0:w.heap.size<=w.heap.size+3:=by omega
 clear hW HN;have HG:=lH hg;have HG0:=lH hg0;clear hg hg0;generalize w.heap.size+3=g at hBN HG HG0;have yF0:W.cell? ⟨w.heap.size,0,none⟩=some (.int .i64 kind):=hBN.f.cell 0;have yF1:W.cell? ⟨w.heap.size,1,none⟩=some (.int .i64 len):=hBN.f.cell 1;have yL0:W.cell? ⟨w.heap.size+1,0,none⟩=some (.int .i64 m.head):=hBN.l.cell 0;have yL2:W.cell? ⟨w.heap.size+1,2,none⟩=some (.int .i64 m.line):=hBN.l.cell 2;have fD:=hBN.fD;have lD:=hBN.lD;have HBN:=lH hBN;generalize w.heap.size+1+1=D at HBN hBN fD lD ⊢;have y5:W.cell? ⟨D,5,none⟩=some (.func (.func 75) #[.pointer (some ⟨D,0,none⟩)] #[]):=hBN.a.k.cell 5;have y7:W.cell? ⟨D,7,none⟩=some (.int .i64 len):=hBN.a.k.cell 7;have y11:W.cell? ⟨D,11,none⟩=some (.bool false):=hBN.a.k.cell 11;have y12:W.cell? ⟨D,12,none⟩=some (.bool false):=hBN.a.k.cell 12;have y13:W.cell? ⟨D,13,none⟩=some (.int .i64 0):=hBN.a.k.cell 13;have z5:W.frozen? ⟨D,5,none⟩=false:=hBN.a.k.froz 5;have z11:W.frozen? ⟨D,11,none⟩=false:=hBN.a.k.froz 11;have z12:W.frozen? ⟨D,12,none⟩=false:=hBN.a.k.froz 12;have z13:W.frozen? ⟨D,13,none⟩=false:=hBN.a.k.froz 13;have h5:ah (W.setCell ⟨D,5,none⟩ (.func (.func 79) #[.pointer (some ⟨D,0,none⟩)] #[])) D w.heap.size m { ff m len with md:=.rest } { ja D (.pointer (some ⟨g,0,none⟩)) with vn:=.func (.func 79) #[.pointer (some ⟨D,0,none⟩)] #[] }:=hBN.a.set 5 _ rfl rfl rfl rfl rfl rfl rfl (fun _=>rfl) (fun e=>(by cases e)) (fun _=>⟨rfl,rfl⟩) ⟨_,_,_,rfl⟩
 have h12:ah ((W.setCell ⟨D,5,none⟩ (.func (.func 79) #[.pointer (some ⟨D,0,none⟩)] #[])).setCell ⟨D,11,none⟩ (.bool true)) D w.heap.size m { ff m len with md:=.rest,till:=true } { ja D (.pointer (some ⟨g,0,none⟩)) with vn:=.func (.func 79) #[.pointer (some ⟨D,0,none⟩)] #[] }:=h5.set 11 _ rfl rfl rfl rfl rfl rfl rfl (fun _=>rfl) (fun e=>(by cases e)) (fun _=>⟨rfl,rfl⟩) ⟨_,_,_,rfl⟩;have HH:=lH h12;have H5:=lH h5;clear hBN h12 h5;go_wp2_with (go_at_call 76;refine(aL _ _).mono ?_;simp only[hdl,hdh];rintro e2 w2 ⟨rfl,rfl⟩)
 go_ret;exact⟨D,_,rfl,HH.out,(HBN.out.b.trans (au HBN.out.a 5 _)).trans (au H5.out 11 _)⟩
theorem oq (m:Lm) (kind len:Int) (w:World) (h0:0<=m.line) (h1:m.line<=65536) (hl:0<=len) (hh0:0<=m.head) (hh1:m.head<=65536) (hk:kind≠0/\kind≠1/\kind≠2/\kind≠3):
 Calls Tryz.prog 51 #[.agg #[.int .i64 kind,.int .i64 len],.agg #[.int .i64 m.head,.int .i64 m.fields,.int .i64 m.line,.int .i64 m.body,.int .i64 m.fold]] w fun e w'=>∃D V,e=.returned (.pointer (some ⟨D,0,none⟩))/\ah w' D w.heap.size m (aZ m kind len) V/\Below w.heap.size w w':=by
 have HN:=lH (ba m.line h0 h1);have hdl:decide (0<=m.line/\m.line<=65536)=true:=dT ⟨h0,h1⟩;have hdh:decide (0<=m.head/\m.head<=65536)=true:=dT ⟨hh0,hh1⟩;have d1:decide (len<0)=false:=dF (by omega);have e0:(kind==0)=false:=by simp[hk]
 have e1:(kind==1)=false:=by simp[hk]
 have e2:(kind==2)=false:=by simp[hk]
 have e3:(kind==3)=false:=by simp[hk]
 have hB:aZ m kind len=(ff m len).wrong 1:=by
  unfold aZ;simp only;rw[if_neg (by omega)];rw[if_neg (by omega),if_neg (by omega),if_neg (by omega),if_neg (by omega)];rfl
 rw[hB];clear hB h0 h1 hl hh0 hh1 hk;go_enter Tryz.func51,Tryz.ntmps51
 go_upto_region 4 with (go_at_call 68;refine(HN.out _).mono ?_;rintro e1 w1 ⟨rfl,h1⟩;subst h1)
 refine bV 4 ?_;intro W hW;have hBN:g7 w W (w.heap.size+1+1) (w.heap.size+3) m kind len (.pointer (some ⟨w.heap.size+3,0,none⟩)):=by rw[hW];exact bn w _ m kind len (.pointer (some ⟨w.heap.size+3,0,none⟩)) (w.heap.size+3) ((tU _ _).alloc (by simp) _)
 have hg:ac W (w.heap.size+3) ((eI m.line).row (.slice none 0 0)) 136:=by rw[hW];exact ac.new' (by simp)
 have hg0:w.heap.size<=w.heap.size+3:=by omega
 clear hW HN;have HG:=lH hg;have HG0:=lH hg0;clear hg hg0;generalize w.heap.size+3=g at hBN HG HG0;have yF0:W.cell? ⟨w.heap.size,0,none⟩=some (.int .i64 kind):=hBN.f.cell 0;have yF1:W.cell? ⟨w.heap.size,1,none⟩=some (.int .i64 len):=hBN.f.cell 1;have yL0:W.cell? ⟨w.heap.size+1,0,none⟩=some (.int .i64 m.head):=hBN.l.cell 0;have yL2:W.cell? ⟨w.heap.size+1,2,none⟩=some (.int .i64 m.line):=hBN.l.cell 2;have fD:=hBN.fD;have lD:=hBN.lD;have HBN:=lH hBN;generalize w.heap.size+1+1=D at HBN hBN fD lD ⊢;have y5:W.cell? ⟨D,5,none⟩=some (.func (.func 75) #[.pointer (some ⟨D,0,none⟩)] #[]):=hBN.a.k.cell 5;have y7:W.cell? ⟨D,7,none⟩=some (.int .i64 len):=hBN.a.k.cell 7;have y11:W.cell? ⟨D,11,none⟩=some (.bool false):=hBN.a.k.cell 11;have y12:W.cell? ⟨D,12,none⟩=some (.bool false):=hBN.a.k.cell 12;have y13:W.cell? ⟨D,13,none⟩=some (.int .i64 0):=hBN.a.k.cell 13;have z5:W.frozen? ⟨D,5,none⟩=false:=hBN.a.k.froz 5;have z11:W.frozen? ⟨D,11,none⟩=false:=hBN.a.k.froz 11;have z12:W.frozen? ⟨D,12,none⟩=false:=hBN.a.k.froz 12;have z13:W.frozen? ⟨D,13,none⟩=false:=hBN.a.k.froz 13;have h13:ah (W.setCell ⟨D,13,none⟩ (.int .i64 1)) D w.heap.size m { ff m len with e:=1 } (ja D (.pointer (some ⟨g,0,none⟩))):=hBN.a.set 13 _ rfl rfl rfl rfl rfl rfl rfl (fun e=>(by cases e)) (fun e=>(by cases e)) (fun _=>⟨rfl,rfl⟩) ⟨_,_,_,rfl⟩;have HC:=lH (bk h13 (tX _) ⟨5,1,⟨#[]⟩⟩)
 have HH:=lH h13;clear hBN h13;go_wp2_with (first|(go_at_call 76;refine(aL _ _).mono ?_;simp only[hdl,hdh];rintro e2 w2 ⟨rfl,rfl⟩)|(go_at_call 80;refine HC.out.mono ?_;rintro e3 w3 ⟨rfl,vo,h3,g3⟩;have H3:=lH h3;have G3:=lH g3;clear h3 g3))
 go_ret;exact⟨D,_,rfl,H3.out,(HBN.out.b.trans (au HBN.out.a 13 _)).trans (HH.out.below G3.out)⟩
theorem qE (m:Lm) (kind len:Int) (w:World):
 Calls Tryz.prog 51 #[.agg #[.int .i64 kind,.int .i64 len],.agg #[.int .i64 m.head,.int .i64 m.fields,.int .i64 m.line,.int .i64 m.body,.int .i64 m.fold]] w fun e w'=>∃D V,e=.returned (.pointer (some ⟨D,0,none⟩))/\ah w' D w.heap.size m (aZ m kind len) V/\Below w.heap.size w w':=by
 by_cases h0:m.line<0\/65536<m.line
 ·exact tk m kind len w h0
 have l0:0<=m.line:=by omega
 have l1:m.line<=65536:=by omega
 by_cases h1:len<0
 ·exact qF m kind len w l0 l1 h1
 have hl:0<=len:=by omega
 by_cases h2:m.head<0\/65536<m.head
 ·exact ou m kind len w l0 l1 hl h2
 have hh0:0<=m.head:=by omega
 have hh1:m.head<=65536:=by omega
 by_cases k0:kind=0
 ·exact ow m kind len w l0 l1 hl hh0 hh1 k0
 by_cases k1:kind=1
 ·by_cases hz:len=0
  ·exact kQ m kind len w l0 l1 hl hh0 hh1 k1 hz
  ·exact kS m kind len w l0 l1 hl hh0 hh1 k1 hz
 by_cases k2:kind=2
 ·exact j9 m kind len w l0 l1 hl hh0 hh1 k2
 by_cases k3:kind=3
 ·exact ml m kind len w l0 l1 hl hh0 hh1 k3
 exact oq m kind len w l0 l1 hl hh0 hh1 ⟨k0,k1,k2,k3⟩
end Go.Proofs.YthjbodpeckebiaaGreatDoor
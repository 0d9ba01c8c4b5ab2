/- Texts packed for one claim, 27 of 48: Parse. -/
import Derived.Test.YthjbodpeckebiaaGreatDoorRdnQ7
import Derived.Test.YthjbodpeckebiaaGreatDoorRdnQ26
set_option maxRecDepth 100000
set_option maxHeartbeats 16000000
set_option linter.unusedSimpArgs false
set_option linter.unusedVariables false
-- Parse
namespace Go.Proofs.YthjbodpeckebiaaGreatDoor
open Go.RowKit
theorem sl (s:ByteArray) (a a1 a2 a3 a4 t:Nat) (b1:Bool) (V:Option Nat) (h1:a1=a+ai (s.data.toList.drop a)) (hb:mK 59 (s.data.toList.drop a1)=b1) (h2:a2=a1+if b1=true then 1 else 0) (h3:a3=a2+ai (s.data.toList.drop a2)) (ht:t=bw (s.data.toList.drop a3)) (h4:a4=a3+t) (hV:V=ji (s.data.toList.drop a4)):
 eD (s.data.toList.drop a)=if b1=true/\t≠0 then V.map (fun n=>(a4 - a)+n) else none:=by
 unfold eD;rw[uo,<-h1];cases hd:s.data.toList.drop a1 with
 | nil=>
   rw[hd] at hb;have:b1=false:=hb.symm;rw[this,if_neg (by simp)]
 | cons b r=>
   simp only;by_cases h59:b=59
   ·have hb1:b1=true:=by
     rw[<-hb,hd,h59];exact(fx (n:=59) (c:=59) rfl).2 ⟨r,rfl⟩
    rw[hb1,if_pos rfl] at h2;have e2:s.data.toList.drop a2=r:=by rw[h2,<-uo,hd];rfl
    rw[e2] at h3;have e3:s.data.toList.drop a3=r.drop (ai r):=by rw[h3,<-uo,e2]
    rw[e3] at ht;have e4:s.data.toList.drop a4=r.drop (ai r+bw (r.drop (ai r))):=by rw[h4,<-uo,e3,uo,ht]
    rw[e4] at hV;rw[if_pos h59,<-ht];by_cases h0:t=0
    ·rw[if_pos h0,if_neg (fun h=>h.2 h0)]
    ·rw[if_neg h0,if_pos ⟨hb1,h0⟩,hV,<-ht]
     congr 1
     funext n
     omega
   ·have hb1:b1=false:=by
     rw[<-hb,hd,Bool.eq_false_iff];intro h;obtain⟨t',e⟩:=(fx (n:=59) (c:=59) rfl).1 h;injection e with e _
     exact h59 e
    rw[if_neg h59,hb1,if_neg (by simp)]
theorem nV (s:ByteArray) (a:Nat) (h:a<=s.size):a+ai (s.data.toList.drop a)<=s.size:=by
 have:=dn (s.data.toList.drop a);rw[t7] at this;have hl:s.data.toList.length=s.size:=by simp
 omega
theorem rF (s:ByteArray) (a:Nat) (h:a<=s.size):a+bw (s.data.toList.drop a)<=s.size:=by
 have:=g6 (s.data.toList.drop a);rw[t7] at this;have hl:s.data.toList.length=s.size:=by simp
 omega
theorem tu {s:ByteArray} {a:Nat} {c:Int} (h:mK c (s.data.toList.drop a)=true):a+1<=s.size:=by
 have hl:s.data.toList.length=s.size:=by simp
 rcases uG a s.size with h1|h1
 ·omega
 ·rw[ug (by omega)] at h
  cases h
structure qs (w:World) (g bc bb bl B a:Nat) (s:ByteArray) (bad:Bool) (v:Value) (l:List Fd):Prop where
 c:ax w g s a
 kc:ac w bc #[.pointer (some ⟨g,0,none⟩)] 203
 kb:ac w bb #[.bool bad] 4
 kl:ac w bl #[v] 171
 o:kM w B v l
 lt:bl<B/\bb<B/\g<B/\bc<B
 sz:B<=w.heap.size
theorem ra (w:World) (g bc bb bl B a:Nat) (s:ByteArray) (hs:s.size<=1000000) (v:Value) (l:List Fd) (h:qs w g bc bb bl B a s false v l) (hll:l.length<=1000000):
 Calls Tryz.prog 192 #[.pointer (some ⟨bc,0,none⟩),.pointer (some ⟨bb,0,none⟩),.pointer (some ⟨bl,0,none⟩)] w fun e w'=>∃a' v' q,e=.returned (.bool ((eD (s.data.toList.drop a)).isSome&&!(s.data.toList.drop a').isEmpty))/\(∀n,eD (s.data.toList.drop a)=some n->a'=a+n)/\
  qs w' g bc bb bl B a' s (eD (s.data.toList.drop a)).isNone v' (l++[q])/\aa (PrP g bb bl v) w w':=by
 obtain⟨a1,h1⟩:∃a1,a1=a+ai (s.data.toList.drop a):=⟨_,rfl⟩;obtain⟨b1,hb⟩:∃b1,mK 59 (s.data.toList.drop a1)=b1:=⟨_,rfl⟩;obtain⟨a2,h2⟩:∃a2,a2=a1+if b1=true then 1 else 0:=⟨_,rfl⟩
 obtain⟨a3,h3⟩:∃a3,a3=a2+ai (s.data.toList.drop a2):=⟨_,rfl⟩;obtain⟨t,ht⟩:∃t,t=bw (s.data.toList.drop a3):=⟨_,rfl⟩;obtain⟨a4,h4⟩:∃a4,a4=a3+t:=⟨_,rfl⟩;obtain⟨V,hV⟩:∃V,V=ji (s.data.toList.drop a4):=⟨_,rfl⟩;have hpf:=sl s a a1 a2 a3 a4 t b1 V h1 hb h2 h3 ht h4 hV;have l1:a1<=s.size:=by rw[h1];exact nV s a h.c.le
 have l2:a2<=s.size:=by
  rw[h2];split
  ·rename_i hb1
   rw[hb1] at hb;exact tu hb
  ·omega
 have l3:a3<=s.size:=by rw[h3];exact nV s a2 l2
 have l4:a4<=s.size:=by rw[h4,ht];exact rF s a3 l3
 obtain⟨X,hX⟩:∃X,X=s.extract a3 a4:=⟨_,rfl⟩;have hXs:X.size=t:=by rw[hX];simp;omega
 obtain⟨t0,ht0⟩:∃t0,t0=(aS X).toList.isEmpty:=⟨_,rfl⟩
 have ht00:t0=decide (t=0):=by
  rw[ht0,af,uU,List.isEmpty_iff,tY];have hl:(aS X).data.toList.length=t:=by rw[<-Lib.size_eq,bg,hXs]
  constructor
  ·intro e
   rw[e] at hl;simpa using hl.symm
  ·intro e
   exact t9 (by omega)
 have n1:g≠bc:=h.c.k.ne h.kc (by decide);have n2:g≠bb:=h.c.k.ne h.kb (by decide);have n3:g≠bl:=h.c.k.ne h.kl (by decide);refine(pc w g bc bb bl B a a1 a2 a3 a4 t s hs v l h.c h.kc h.kb h.kl h.o h.lt h.sz hll ⟨fun e=>n1 (show bc=g from e).symm,fun e=>n2 (show bb=g from e).symm,fun e=>n3 (show bl=g from e).symm,h.kc.ne h.kb (by decide),h.kl.ne h.kb (by decide),h.kc.ne h.kl (by decide)⟩ b1 t0 V.isSome V X (aS X) h1 hb h2 h3 ht h4 hX (show X.size<=1000000 by omega) rfl ht0.symm hV rfl).mono ?_;rintro e w' ⟨a5,E,v',q,rfl,hc,hV5,hE,k1,k2,k3,ho,tt⟩
 have hsome:(eD (s.data.toList.drop a)).isSome=(b1&&(!t0&&V.isSome)):=by
  rw[hpf,ht00];cases b1
  ·rfl
  ·by_cases h0:t=0
   ·rw[if_neg (fun h=>h.2 h0)];simp[h0]
   ·rw[if_pos ⟨rfl,h0⟩];cases V<;>simp[h0]
 refine⟨a5,v',q,?_,?_,⟨hc,k1,?_,k3,ho,h.lt,nT h.sz tt.size⟩,tt⟩
 ·rw[hsome]
  cases b1
  ·rfl
  cases t0
  ·cases hv:V.isSome
   ·rfl
   ·rw[hE rfl rfl hv];rfl
  ·rfl
 ·intro n hn
  rw[hpf] at hn;split at hn
  ·cases V with
   | none=>cases hn
   | some m=>
     cases hn
     have:=hV5 m rfl;have la:a1<=a2:=by rw[h2];exact uv _ _
     have lb:a<=a1:=by rw[h1];exact uv _ _
     have lc:a2<=a3:=by rw[h3];exact uv _ _
     show a5=a+(a4 - a+m);omega
  ·cases hn
 ·have:(eD (s.data.toList.drop a)).isNone=!(b1&&(!t0&&V.isSome)):=by rw[<-hsome];cases eD (s.data.toList.drop a)<;>rfl
  rw[this];exact k2
def rJ (NM:ByteArray):Option Nat->ByteArray×Nat×Int
 | none=>(⟨#[]⟩,0,3)
 | some k=>(NM,k,0)
def rf (L:List UInt8):Option Nat->Option Nat
 | none=>none
 | some n=>(dm (L.drop n)).map (·+1)
theorem sn {L:List UInt8} (h:L≠[]):dm L=rf L (eD L):=by
 rw[mT h];cases eD L<;>rfl
def kj (w:World) (g:Nat):Nat:=match w.cell? ⟨g,1,none⟩ with
 | some (.int _ n)=>n.toNat
 | _=>0
theorem jA {w:World} {g a:Nat} {s:ByteArray} (h:ax w g s a):kj w g=a:=by
 unfold kj;have:=h.k.cell 1;rw[this];rfl
def cV (n g:Nat) (u:Value) (w:World):Nat:=match u with
 | .bool true=>n+1 - kj w g
 | _=>0
theorem lU {fn:Func} {t p u:Tmp} {ty:TypeId} (h:fn.results=#[.tmp t,.cell p ty,.tmp u]) (tmps:Array Value) (P:Program) (w:World):
 (results fn tmps).run P w=((asAddr (tmps.getD p undef)).run P w).andThen fun a w₁=>((loadVar ty a).run P w₁).andThen fun v w₂=>.ok (.tuple #[tmps.getD t undef,v,tmps.getD u undef]) w₂:=by
 simp only[results,h];simp[Sem.run_bind,Result.andThen]
theorem bS {fn:Func} {t p u:Tmp} {ty:TypeId} (h:fn.results=#[.tmp t,.cell p ty,.tmp u]) (tmps:Array Value) (P:Program) (w:World) (g:Nat) (x:Value) (hp:tmps.getD p undef=.pointer (some ⟨g,0,none⟩)) (hx:w.cell? ⟨g,0,none⟩=some x) (ha:∀W,(isAgg ty).run P W=.ok false W):
 (results fn tmps).run P w=.ok (.tuple #[tmps.getD t undef,x,tmps.getD u undef]) w:=by
 rw[lU h,hp]
 have hl:(loadVar ty ⟨g,0,none⟩).run P w=.ok x w:=by
  unfold loadVar;simp[Sem.run_bind,ha,Result.andThen,run_load,hx]
 show ((loadVar ty ⟨g,0,none⟩).run P w).andThen _=_;rw[hl];rfl
theorem iJ (s:ByteArray) (hs:s.size<=1000000) (w:World):
 Calls Tryz.prog 151 #[.string s] w fun e w'=>∃p c,e=.returned (.tuple #[.string (aF s).1,.slice p (aF s).2.1 c,.int .i64 (aF s).2.2])/\Below w.heap.size w w':=by
 by_cases h0:s.size=0
 ·have he:s.toList.isEmpty=true:=by
   rw[af,List.isEmpty_iff];exact t9 (by rw[<-Lib.size_eq];exact h0)
  have HW:Hid (aF s=(⟨#[]⟩,0,2)):=by show _=_;unfold aF;rw[if_pos h0]
  clear h0;go_enter Tryz.func151,Tryz.ntmps151
  go_wp2_with fail
  have a1:∀W,(isAgg 171).run Tryz.prog W=.ok false W:=fun W=>by kernel_rfl
  refine ub (v:=.tuple #[.string ⟨#[]⟩,.slice none 0 0,.int .i64 2]) (bS Tryz.results151 _ _ _ w.heap.size (.slice none 0 0) rfl ((ac.new w #[.slice none 0 0] 171).cell 0) a1) rfl ?_;rw[HW.out];exact⟨none,0,rfl,(tU _ _).alloc (nR _) _⟩
 have HCN:Hid (ax ((w.alloc (.cells #[.slice none 0 0] 171)).alloc (.cells #[.string s,.int .i64 0] 226)) (w.heap.size+1) s 0):=⟨ac.new' (by simp),tX _⟩
 have he:s.toList.isEmpty=false:=by
  rw[af,List.isEmpty_eq_false_iff];intro e;have hl:s.data.toList.length=s.size:=by simp
  rw[e] at hl;simp at hl;omega
 obtain⟨t,ht⟩:∃t,t=bw (s.data.toList.drop 0):=⟨_,rfl⟩;have htl:=rF s 0 (tX _);rw[<-ht,uJ] at htl;obtain⟨X,hX⟩:∃X,X=s.extract 0 t:=⟨_,rfl⟩;have hXs:X.size=t:=by rw[hX];simp;omega
 obtain⟨NM,hNM⟩:∃N,N=aS X:=⟨_,rfl⟩;obtain⟨t0,ht0⟩:∃t0,t0=NM.toList.isEmpty:=⟨_,rfl⟩;have hne:NM.toList.isEmpty=t0:=ht0.symm
 have ht00:t0=decide (t=0):=by
  rw[ht0,hNM,af,uU,List.isEmpty_iff,tY];have hl:(aS X).data.toList.length=t:=by rw[<-Lib.size_eq,bg,hXs]
  constructor
  ·intro e
   rw[e] at hl;simpa using hl.symm
  ·intro e
   exact t9 (by omega)
 obtain⟨F,hF⟩:∃F,F=dm (s.data.toList.drop t):=⟨_,rfl⟩
 have hW:aF s=if t0=true then ((⟨#[]⟩,0,3):ByteArray×Nat×Int) else rJ NM F:=by
  unfold aF;rw[if_neg h0];have ht':t=bw s.data.toList:=ht;rw[<-ht',<-hF,hNM,hX,ht00];by_cases h:t=0
  ·rw[if_pos h,if_pos (by simpa using h)]
  ·rw[if_neg h,if_neg (by simpa using h)]
   cases F<;>rfl
 have HW:=lH hW;have HT:=lH ht;have HX:=lH hX;have HNM:=lH hNM;have HF:=lH hF;have HTL:=lH htl;have HXS:Hid (X.size<=1000000):=by show _<=_;omega
 clear h0 ht hX hXs hNM ht0 ht00 hF hW htl;have hag:∀W,(isAgg 171).run Tryz.prog W=.ok false W:=fun W=>by kernel_rfl
 have HAG:=lH hag;clear hag;go_enter Tryz.func151,Tryz.ntmps151
 go_wp2_with fail
 refine(lE s _).mono ?_;rintro e1 w1 ⟨rfl,hw1⟩;rw[World.size_alloc];have hc1:ax w1 (w.heap.size+1) s 0:=by rw[hw1];exact HCN.out
 have kl1:ac w1 w.heap.size #[.slice none 0 0] 171:=by rw[hw1];exact(ac.new _ _ _).alloc _
 have hb1:Below w.heap.size w w1:=by rw[hw1];exact((tU _ _).alloc (nR _) _).alloc (by simp) _
 have hz1:w1.heap.size=w.heap.size+2:=by rw[hw1];simp
 have hsb:Below w1.heap.size w1 (w1.alloc (.cells #[.pointer (some ⟨w.heap.size+1,0,none⟩)] 203)):=(tU _ _).alloc (nR _) _;have HC2:=lH (hc1.call hsb);have KC2:Hid (ac (w1.alloc (.cells #[.pointer (some ⟨w.heap.size+1,0,none⟩)] 203)) w1.heap.size #[.pointer (some ⟨w.heap.size+1,0,none⟩)] 203):=ac.new _ _ _;have HZ1:=lH hz1;have KL2:=lH (kl1.call hsb);have HB2:Hid (Below w.heap.size w (w1.alloc (.cells #[.pointer (some ⟨w.heap.size+1,0,none⟩)] 203))):=hb1.trans (hsb.mono hb1.size);have HZ2:Hid ((w1.alloc (.cells #[.pointer (some ⟨w.heap.size+1,0,none⟩)] 203)).heap.size=w.heap.size+3):=by show _=_;simp;omega
 clear hw1 hc1 kl1 hb1 hz1 hsb HCN;go_wp2_with fail
 refine(eN HC2.out hs).mono ?_;rintro e3 w3 ⟨rfl,hc3,ht3⟩;rw[<-HT.out,uJ] at hc3 ⊢;rw[<-HX.out];have HC3:=lH hc3;have KC3:=lH (KC2.out.touch ht3 (fun e=>by have h:w1.heap.size=w.heap.size+1:=e;have h2:=HZ1.out;omega));have KL3:=lH (KL2.out.touch ht3 (fun e=>by have h:w.heap.size=w.heap.size+1:=e;omega));have HB3:Hid (Below w.heap.size w w3):=HB2.out.trans (ht3.below (fun k _ hk=>by rw[show k=w.heap.size+1 from hk];omega) HB2.out.size);have HZ3:Hid (w.heap.size+3<=w3.heap.size):=by show _<=_;rw[<-HZ2.out];exact ht3.size
 clear hc3 ht3;go_wp2_with fail
 refine(iH X HXS.out w3).mono ?_;rintro e4 w4 ⟨rfl,hb4⟩;rw[<-HNM.out];obtain⟨B,hB⟩:∃B,B=w4.heap.size+1:=⟨_,rfl⟩;have hsb:Below w4.heap.size w4 (w4.alloc (.cells #[.bool t0] 4)):=(tU _ _).alloc (nR _) _;have hsb2:Below w3.heap.size w3 (w4.alloc (.cells #[.bool t0] 4)):=hb4.trans (hsb.mono hb4.size)
 have PR:Hid (qs (w4.alloc (.cells #[.bool t0] 4)) (w.heap.size+1) w1.heap.size w4.heap.size w.heap.size B t s t0 (.slice none 0 0) []):=
  ⟨HC3.out.call hsb2,KC3.out.call hsb2,ac.new _ _ _,KL3.out.call hsb2,uz _ _ _ _,by have h1:=HZ3.out;have h2:=hb4.size;have h3:=HZ1.out;omega,by rw[hB];simp⟩
 have HBP:Hid (Below w.heap.size w (w4.alloc (.cells #[.bool t0] 4))):=HB3.out.trans (hsb2.mono HB3.out.size);have HBW:Hid (w.heap.size<B/\w.heap.size<=w4.heap.size):=by have h1:=HZ3.out;have h2:=hb4.size;exact⟨by omega,by omega⟩
 clear hb4 hB hsb hsb2 HC2 KC2 KL2 HB2 HZ2 HC3 KC3 KL3;have c0:=PR.out.kc.cell 0;have b0:=PR.out.kb.cell 0;simp at c0 b0;obtain⟨g4,hg4⟩:∃g,g=w4.heap.size:=⟨_,rfl⟩;cases t0 with
 | true=>
   have HWE:Hid (aF s=(⟨#[]⟩,0,3)):=by show _=_;rw[HW.out,if_pos rfl]
   have l0:=PR.out.kl.cell 0;have f0:=PR.out.kl.froz 0;simp at l0;clear hg4;go_wp2_with fail
   refine wp_loop_rounds 1 ?_;rw[rounds_succ];go_wp2_with fail
   refine ub (v:=.tuple #[.string ⟨#[]⟩,.slice none 0 0,.int .i64 3]) (bS Tryz.results151 _ _ _ w.heap.size (.slice none 0 0) rfl ((jK PR.out.kl (.slice none 0 0)).cell 0) HAG.out) rfl ?_;rw[HWE.out];exact⟨none,0,rfl,HBP.out.setCell (p:=⟨w.heap.size,0,none⟩) (nR _) _⟩
 | false=>
   have hcd:=jw PR.out.c hs;have HWE:Hid (aF s=rJ NM F):=by show _=_;rw[HW.out,if_neg (by decide)]
   have HCD:=lH hcd;clear hcd;go_wp2_with fail
   refine HCD.out.mono ?_;rintro e5 w5 ⟨rfl,hb5⟩
   have PR5:Hid (qs w5 (w.heap.size+1) w1.heap.size g4 w.heap.size B t s false (.slice none 0 0) []):=by
    rw[hg4];exact⟨PR.out.c.call hb5,PR.out.kc.call hb5,PR.out.kb.call hb5,PR.out.kl.call hb5,uz _ _ _ _,PR.out.lt,nT PR.out.sz hb5.size⟩
   have HB5:Hid (Below w.heap.size w w5):=HBP.out.trans (hb5.mono HBP.out.size);have HG4:Hid (w.heap.size<=g4):=by rw[hg4];exact HBW.out.2
   rw[<-hg4];clear hb5 c0 b0 hg4 HCD PR HBP;go_wp2_with fail
   go_loopw [8] (fun u8 wr=>∃(a:Nat) (xs:List Fd) (v:Value) (more bad:Bool),u8=.bool more/\qs wr (w.heap.size+1) w1.heap.size g4 w.heap.size B a s bad v xs/\(bad=true->more=false/\F=none)/\(bad=false->xs.length<=a/\F=(dm (s.data.toList.drop a)).map (·+xs.length)/\more=!(s.data.toList.drop a).isEmpty)/\Below w.heap.size w wr) (fun u8 wr=>cV s.size (w.heap.size+1) u8 wr)
   case atStart=>exact⟨t,[],.slice none 0 0,_,false,rfl,PR5.out,(fun h=>by cases h),fun _=>⟨tX _,by rw[HF.out];cases dm (s.data.toList.drop t)<;>rfl,rfl⟩,HB5.out⟩
   case round=>
    obtain⟨a,xs,v,more,bad,rfl,hpr,hbd,hok,hb⟩:=hrel;have HPR:=lH hpr;have HBD:=lH hbd;have HOK:=lH hok;have HB:=lH hb;have k0:=hpr.kb.cell 0;have l0:=hpr.kl.cell 0;have f0:=hpr.kl.froz 0;simp at k0 l0;clear hpr hbd hok hb;cases more with
    | true=>
      have hb0:bad=false:=by
       cases bad with
       | false=>rfl
       | true=>exact absurd (HBD.out rfl).1 (by decide)
      subst hb0;obtain⟨hxl,hFa,hmo⟩:=HOK.out rfl
      have hne:s.data.toList.drop a≠[]:=by
       intro e;rw[e] at hmo;cases hmo
      have hFs:=sn hne;have hal:=HPR.out.c.le;have HNX:=lH (ra wr (w.heap.size+1) w1.heap.size g4 w.heap.size B a s hs v xs HPR.out (by omega));obtain⟨PF,hPF⟩:∃P,P=eD (s.data.toList.drop a):=⟨_,rfl⟩;rw[<-hPF] at HNX hFs
      have HFA:Hid (F=(rf (s.data.toList.drop a) PF).map (·+xs.length)):=by
       show _=_;rw[hFa,hFs]
      have HP2:Hid (∀n,PF=some n->2<=n):=by
       show ∀n,_->_;intro n hn;rw[hPF] at hn;exact(nQ hn).1
      have HXL:=lH hxl;have HCP:Hid (kj wr (w.heap.size+1)=a):=jA HPR.out.c;have HALE:=lH hal;have HVB:=lH (fun k hk=>(d6 HPR.out.o k hk).1:∀k,v.ownBlock=some k->B<=k);clear hxl hFa hmo hne hFs hal hPF;go_wp2_with (go_at_call 192;refine HNX.out.mono ?_;rintro e6 w6 ⟨a',v',q,rfl,hn6,hp6,ht6⟩;have HN6:=lH hn6;have HP6:=lH hp6;have HB6:Hid (Below w.heap.size w w6):=(HB.out.trans (ht6.below (B:=w.heap.size) (fun k _ hk=>by rcases hk with e|e|e|e;(rw[show k=w.heap.size+1 from e];omega);(rw[e];exact HG4.out);(rw[e];exact nR _);(have h1:=HVB.out k e;have h2:=HBW.out.1;omega)) HB.out.size));clear hn6 hp6 ht6)
      go_roundw
      case rel=>
       refine⟨a',xs++[q],v',_,PF.isNone,rfl,HP6.out,fun h=>?_,fun h=>?_,HB6.out⟩
       ·cases PF with
        | none=>exact⟨rfl,by rw[HFA.out];rfl⟩
        | some n=>cases h
       ·cases PF with
        | none=>cases h
        | some n=>
          have h1:=HN6.out n rfl;have h2:=HP2.out n rfl;have h3:=HXL.out;refine⟨by rw[ue,List.length_singleton];omega,?_,rfl⟩;rw[HFA.out,h1,ue,List.length_singleton];unfold rf;simp only;rw[uo];cases dm (s.data.toList.drop (a+n)) with
          | none=>rfl
          | some k=>simp;omega
      case measure=>
       have h3:=HCP.out;have h4:=HALE.out;have h5:=jA HP6.out.c;have h6:=HP6.out.c.le;cases PF with
       | none=>
         show 0<cV s.size (w.heap.size+1) (.bool true) wr;unfold cV;simp only;omega
       | some n=>
         have h1:=HN6.out n rfl;have h2:=HP2.out n rfl;cases he:(s.data.toList.drop a').isEmpty with
         | true=>
           show 0<cV s.size (w.heap.size+1) (.bool true) wr;unfold cV;simp only;omega
         | false=>
           show cV s.size (w.heap.size+1) (.bool true) w6<cV s.size (w.heap.size+1) (.bool true) wr;unfold cV;simp only;omega
    | false=>
      cases bad with
      | true=>
        have HE:Hid (aF s=(⟨#[]⟩,0,3)):=by show _=_;rw[HWE.out,(HBD.out rfl).2];rfl
        go_wp2_with fail
        refine ub (v:=.tuple #[.string ⟨#[]⟩,.slice none 0 0,.int .i64 3]) (bS Tryz.results151 _ _ _ w.heap.size (.slice none 0 0) rfl ((jK HPR.out.kl (.slice none 0 0)).cell 0) HAG.out) rfl ?_;rw[HE.out];first|exact⟨none,0,rfl,HB.out.setCell (p:=⟨w.heap.size,0,none⟩) (nR _) _⟩|exact⟨⟨none,0,rfl⟩,HB.out.setCell (p:=⟨w.heap.size,0,none⟩) (nR _) _⟩
      | false=>
        obtain⟨_,hFa,hmo⟩:=HOK.out rfl
        have he:s.data.toList.drop a=[]:=by
         cases hd:s.data.toList.drop a with
         | nil=>rfl
         | cons b l=>rw[hd] at hmo;cases hmo
        rw[he,pm] at hFa
        have HE:Hid (aF s=(NM,xs.length,0)):=by
         show _=_;rw[HWE.out,hFa];show rJ NM (some (0+xs.length))=_;rw[uJ];rfl
        obtain⟨pv,cv,rfl⟩:=aV HPR.out.o;clear hFa hmo he;go_wp2_with fail
        refine eE 3 (by kernel_rfl) (by kernel_rfl) ?_;simp only[uy,List.take_zero,uA,us];repeat go_big_quiet_step (fail)
        refine uE ?_;rintro _ ⟨nq,rfl⟩;go_wp2_with fail
        have kq:ac (wr.drewN nq) w.heap.size #[.slice pv xs.length cv] 171:=HPR.out.kl;refine ub (v:=.tuple #[.string NM,.slice pv xs.length cv,.int .i64 0]) (bS Tryz.results151 _ _ _ w.heap.size (.slice pv xs.length cv) rfl ((jK kq (.slice pv xs.length cv)).cell 0) HAG.out) rfl ?_;rw[HE.out];have hfin:=(dZ HB.out nq).setCell (p:=⟨w.heap.size,0,none⟩) (nR _) (.slice pv xs.length cv);first|exact⟨pv,cv,rfl,hfin⟩|exact⟨⟨pv,cv,rfl⟩,hfin⟩
theorem rK (s:ByteArray) (hs:s.size<=1000000) (w:World):
 Calls Tryz.prog 148 #[.string s] w fun e w'=>e=.returned (.tuple #[.string (aF s).1,.bool (decide (0<(aF s).2.1)),.bool (jj s)])/\Below w.heap.size w w':=by
 have HP:=lH (iJ s hs w);unfold jj;obtain⟨⟨nm,k,e⟩,hW⟩:∃W,W=aF s:=⟨_,rfl⟩;rw[<-hW] at HP ⊢;simp only at HP ⊢;obtain⟨q,hq⟩:∃q,q=(e==0):=⟨_,rfl⟩;have hqe:(e==0)=q:=hq.symm;rw[hqe];obtain⟨r,hr⟩:∃r,r=decide (0<k):=⟨_,rfl⟩;have hre:decide (0<k)=r:=hr.symm;have hri:decide ((0:Int)<(k:Int))=r:=by rw[hr];exact decide_eq_decide.2 (by omega)
 rw[hre];clear hW hq hr;go_enter Tryz.func148,Tryz.ntmps148
 go_wp2_with (go_at_call 151;refine HP.out.mono ?_;rintro e1 w1 ⟨p1,c1,rfl,hb⟩;have HB:=lH hb;clear hb)
 refine ub (v:=.tuple #[.string nm,.bool r,.bool q]) (by simp[results,Tryz.results148,go_sem]) rfl ?_;exact⟨rfl,HB.out⟩
end Go.Proofs.YthjbodpeckebiaaGreatDoor
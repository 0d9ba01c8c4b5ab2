/- Texts packed for one claim, 27 of 52: Parse RfB RfC RfC2 RfD RfE. -/
import Derived.Test.YthjbodpeckebiaaGreatDoorMrsQ7
import Derived.Test.YthjbodpeckebiaaGreatDoorMrsQ26
import Derived.Test.YthjbodpeckebiaaGreatDoorMrsQ6
import Derived.Test.YthjbodpeckebiaaGreatDoorMrsQ2
import Derived.Test.YthjbodpeckebiaaGreatDoorMrsQ24
set_option maxRecDepth 100000
set_option maxHeartbeats 16000000
set_option linter.unusedSimpArgs false
set_option linter.unusedVariables false
-- Parse
namespace Go.Proofs.YthjbodpeckebiaaGreatDoor
open Go.RowKit
theorem Dj (s:ByteArray) (a a1 a2 a3 a4 t:Nat) (b1:Bool) (V:Option Nat) (h1:a1=a+ag (s.data.toList.drop a)) (hb:wz 59 (s.data.toList.drop a1)=b1) (h2:a2=a1+if b1=true then 1 else 0) (h3:a3=a2+ag (s.data.toList.drop a2)) (ht:t=aU (s.data.toList.drop a3)) (h4:a4=a3+t) (hV:V=iW (s.data.toList.drop a4)):
 cV (s.data.toList.drop a)=if b1=true/\t≠0 then V.map (fun n=>(a4 - a)+n) else none:=by
 unfold cV;rw[Fb,<-h1];cases hd:s.data.toList.drop a1 with
 | nil=>
   rw[hd] at hb;have:b1=false:=hb.symm;rw[this,if_neg (by simp)]
 | cons b r=>
   simp only;by_cases h59:b=59
   ·have hb1:b1=true:=by
     rw[<-hb,hd,h59];exact(kH (n:=59) (c:=59) rfl).2 ⟨r,rfl⟩
    rw[hb1,if_pos rfl] at h2;have e2:s.data.toList.drop a2=r:=by rw[h2,<-Fb,hd];rfl
    rw[e2] at h3;have e3:s.data.toList.drop a3=r.drop (ag r):=by rw[h3,<-Fb,e2]
    rw[e3] at ht;have e4:s.data.toList.drop a4=r.drop (ag r+aU (r.drop (ag r))):=by rw[h4,<-Fb,e3,Fb,ht]
    rw[e4] at hV;rw[if_pos h59,<-ht];by_cases h0:t=0
    ·rw[if_pos h0,if_neg (fun h=>h.2 h0)]
    ·rw[if_neg h0,if_pos ⟨hb1,h0⟩,hV,<-ht]
     congr 1
     funext n
     omega
   ·have hb1:b1=false:=by
     rw[<-hb,hd,Bool.eq_false_iff];intro h;obtain⟨t',e⟩:=(kH (n:=59) (c:=59) rfl).1 h;injection e with e _
     exact h59 e
    rw[if_neg h59,hb1,if_neg (by simp)]
theorem wQ (s:ByteArray) (a:Nat) (h:a<=s.size):a+ag (s.data.toList.drop a)<=s.size:=by
 have:=aT (s.data.toList.drop a);rw[ES] at this;have hl:s.data.toList.length=s.size:=by simp
 omega
theorem Bw (s:ByteArray) (a:Nat) (h:a<=s.size):a+aU (s.data.toList.drop a)<=s.size:=by
 have:=ep (s.data.toList.drop a);rw[ES] at this;have hl:s.data.toList.length=s.size:=by simp
 omega
theorem D6 {s:ByteArray} {a:Nat} {c:Int} (h:wz c (s.data.toList.drop a)=true):a+1<=s.size:=by
 have hl:s.data.toList.length=s.size:=by simp
 rcases FM a s.size with h1|h1
 ·omega
 ·rw[E6 (by omega)] at h
  cases h
structure Az (w:World) (g bc bb bl B a:Nat) (s:ByteArray) (bad:Bool) (v:Value) (l:List Fd):Prop where
 c:bo w g s a
 kc:af w bc #[.pointer (some ⟨g,0,none⟩)] 203
 kb:af w bb #[.bool bad] 4
 kl:af w bl #[v] 171
 o:fR w B v l
 lt:bl<B/\bb<B/\g<B/\bc<B
 sz:B<=w.heap.size
theorem Bz (w:World) (g bc bb bl B a:Nat) (s:ByteArray) (hs:s.size<=1000000) (v:Value) (l:List Fd) (h:Az w g bc bb bl B a s false v l) (hll:l.length<=1000000):
 Calls Tryz.prog 192 #[.pointer (some ⟨bc,0,none⟩),.pointer (some ⟨bb,0,none⟩),.pointer (some ⟨bl,0,none⟩)] w fun e w'=>∃a' v' q,e=.returned (.bool ((cV (s.data.toList.drop a)).isSome&&!(s.data.toList.drop a').isEmpty))/\(∀n,cV (s.data.toList.drop a)=some n->a'=a+n)/\
  Az w' g bc bb bl B a' s (cV (s.data.toList.drop a)).isNone v' (l++[q])/\aa (PrP g bb bl v) w w':=by
 obtain⟨a1,h1⟩:∃a1,a1=a+ag (s.data.toList.drop a):=⟨_,rfl⟩;obtain⟨b1,hb⟩:∃b1,wz 59 (s.data.toList.drop a1)=b1:=⟨_,rfl⟩;obtain⟨a2,h2⟩:∃a2,a2=a1+if b1=true then 1 else 0:=⟨_,rfl⟩
 obtain⟨a3,h3⟩:∃a3,a3=a2+ag (s.data.toList.drop a2):=⟨_,rfl⟩;obtain⟨t,ht⟩:∃t,t=aU (s.data.toList.drop a3):=⟨_,rfl⟩;obtain⟨a4,h4⟩:∃a4,a4=a3+t:=⟨_,rfl⟩;obtain⟨V,hV⟩:∃V,V=iW (s.data.toList.drop a4):=⟨_,rfl⟩;have hpf:=Dj s a a1 a2 a3 a4 t b1 V h1 hb h2 h3 ht h4 hV;have l1:a1<=s.size:=by rw[h1];exact wQ s a h.c.le
 have l2:a2<=s.size:=by
  rw[h2];split
  ·rename_i hb1
   rw[hb1] at hb;exact D6 hb
  ·omega
 have l3:a3<=s.size:=by rw[h3];exact wQ s a2 l2
 have l4:a4<=s.size:=by rw[h4,ht];exact Bw s a3 l3
 obtain⟨X,hX⟩:∃X,X=s.extract a3 a4:=⟨_,rfl⟩;have hXs:X.size=t:=by rw[hX];simp;omega
 obtain⟨t0,ht0⟩:∃t0,t0=(br X).toList.isEmpty:=⟨_,rfl⟩
 have ht00:t0=decide (t=0):=by
  rw[ht0,ah,F6,Gy,EO];have hl:(br X).data.toList.length=t:=by rw[<-Lib.size_eq,cX,hXs]
  constructor
  ·intro e
   rw[e] at hl;simpa using hl.symm
  ·intro e
   exact EU (by omega)
 have n1:g≠bc:=h.c.k.ne h.kc (by decide);have n2:g≠bb:=h.c.k.ne h.kb (by decide);have n3:g≠bl:=h.c.k.ne h.kl (by decide);refine(zf w g bc bb bl B a a1 a2 a3 a4 t s hs v l h.c h.kc h.kb h.kl h.o h.lt h.sz hll ⟨fun e=>n1 (show bc=g from e).symm,fun e=>n2 (show bb=g from e).symm,fun e=>n3 (show bl=g from e).symm,h.kc.ne h.kb (by decide),h.kl.ne h.kb (by decide),h.kc.ne h.kl (by decide)⟩ b1 t0 V.isSome V X (br X) h1 hb h2 h3 ht h4 hX (show X.size<=1000000 by omega) rfl ht0.symm hV rfl).mono ?_;rintro e w' ⟨a5,E,v',q,rfl,hc,hV5,hE,k1,k2,k3,ho,tt⟩
 have hsome:(cV (s.data.toList.drop a)).isSome=(b1&&(!t0&&V.isSome)):=by
  rw[hpf,ht00];cases b1
  ·rfl
  ·by_cases h0:t=0
   ·rw[if_neg (fun h=>h.2 h0)];simp[h0]
   ·rw[if_pos ⟨rfl,h0⟩];cases V<;>simp[h0]
 refine⟨a5,v',q,?_,?_,⟨hc,k1,?_,k3,ho,h.lt,nT h.sz tt.size⟩,tt⟩
 ·rw[hsome]
  cases b1
  ·rfl
  cases t0
  ·cases hv:V.isSome
   ·rfl
   ·rw[hE rfl rfl hv];rfl
  ·rfl
 ·intro n hn
  rw[hpf] at hn;split at hn
  ·cases V with
   | none=>cases hn
   | some m=>
     cases hn
     have:=hV5 m rfl;have la:a1<=a2:=by rw[h2];exact Fj _ _
     have lb:a<=a1:=by rw[h1];exact Fj _ _
     have lc:a2<=a3:=by rw[h3];exact Fj _ _
     show a5=a+(a4 - a+m);omega
  ·cases hn
 ·have:(cV (s.data.toList.drop a)).isNone=!(b1&&(!t0&&V.isSome)):=by rw[<-hsome];cases cV (s.data.toList.drop a)<;>rfl
  rw[this];exact k2
def A6 (NM:ByteArray):Option Nat->ByteArray×Nat×Int
 | none=>(⟨#[]⟩,0,3)
 | some k=>(NM,k,0)
def BQ (L:List UInt8):Option Nat->Option Nat
 | none=>none
 | some n=>(cy (L.drop n)).map (·+1)
theorem Cd {L:List UInt8} (h:L≠[]):cy L=BQ L (cV L):=by
 rw[ku h];cases cV L<;>rfl
def rL (w:World) (g:Nat):Nat:=match w.cell? ⟨g,1,none⟩ with
 | some (.int _ n)=>n.toNat
 | _=>0
theorem qX {w:World} {g a:Nat} {s:ByteArray} (h:bo w g s a):rL w g=a:=by
 unfold rL;have:=h.k.cell 1;rw[this];rfl
def fV (n g:Nat) (u:Value) (w:World):Nat:=match u with
 | .bool true=>n+1 - rL w g
 | _=>0
theorem tD {fn:Func} {t p u:Tmp} {ty:TypeId} (h:fn.results=#[.tmp t,.cell p ty,.tmp u]) (tmps:Array Value) (P:Program) (w:World):
 (results fn tmps).run P w=((asAddr (tmps.getD p undef)).run P w).andThen fun a w₁=>((loadVar ty a).run P w₁).andThen fun v w₂=>.ok (.tuple #[tmps.getD t undef,v,tmps.getD u undef]) w₂:=by
 simp only[results,h];simp[Sem.run_bind,Result.andThen]
theorem ec {fn:Func} {t p u:Tmp} {ty:TypeId} (h:fn.results=#[.tmp t,.cell p ty,.tmp u]) (tmps:Array Value) (P:Program) (w:World) (g:Nat) (x:Value) (hp:tmps.getD p undef=.pointer (some ⟨g,0,none⟩)) (hx:w.cell? ⟨g,0,none⟩=some x) (ha:∀W,(isAgg ty).run P W=.ok false W):
 (results fn tmps).run P w=.ok (.tuple #[tmps.getD t undef,x,tmps.getD u undef]) w:=by
 rw[tD h,hp]
 have hl:(loadVar ty ⟨g,0,none⟩).run P w=.ok x w:=by
  unfold loadVar;simp[Sem.run_bind,ha,Result.andThen,run_load,hx]
 show ((loadVar ty ⟨g,0,none⟩).run P w).andThen _=_;rw[hl];rfl
theorem od (s:ByteArray) (hs:s.size<=1000000) (w:World):
 Calls Tryz.prog 151 #[.string s] w fun e w'=>∃p c,e=.returned (.tuple #[.string (aW s).1,.slice p (aW s).2.1 c,.int .i64 (aW s).2.2])/\Below w.heap.size w w':=by
 by_cases h0:s.size=0
 ·have he:s.toList.isEmpty=true:=by
   rw[ah,Gy];exact EU (by rw[<-Lib.size_eq];exact h0)
  have HW:Hid (aW s=(⟨#[]⟩,0,2)):=by show _=_;unfold aW;rw[if_pos h0]
  clear h0;go_enter Tryz.func151,Tryz.ntmps151
  go_wp2_with fail
  have a1:∀W,(isAgg 171).run Tryz.prog W=.ok false W:=fun W=>by kernel_rfl
  refine EW (v:=.tuple #[.string ⟨#[]⟩,.slice none 0 0,.int .i64 2]) (ec Tryz.results151 _ _ _ w.heap.size (.slice none 0 0) rfl ((af.new w #[.slice none 0 0] 171).cell 0) a1) rfl ?_;rw[HW.out];exact⟨none,0,rfl,(EK _ _).alloc (nR _) _⟩
 have HCN:Hid (bo ((w.alloc (.cells #[.slice none 0 0] 171)).alloc (.cells #[.string s,.int .i64 0] 226)) (w.heap.size+1) s 0):=⟨af.new' (by simp),EN _⟩
 have he:s.toList.isEmpty=false:=by
  rw[ah,List.isEmpty_eq_false_iff];intro e;have hl:s.data.toList.length=s.size:=by simp
  rw[e] at hl;simp at hl;omega
 obtain⟨t,ht⟩:∃t,t=aU (s.data.toList.drop 0):=⟨_,rfl⟩;have htl:=Bw s 0 (EN _);rw[<-ht,FQ] at htl;obtain⟨X,hX⟩:∃X,X=s.extract 0 t:=⟨_,rfl⟩;have hXs:X.size=t:=by rw[hX];simp;omega
 obtain⟨NM,hNM⟩:∃N,N=br X:=⟨_,rfl⟩;obtain⟨t0,ht0⟩:∃t0,t0=NM.toList.isEmpty:=⟨_,rfl⟩;have hne:NM.toList.isEmpty=t0:=ht0.symm
 have ht00:t0=decide (t=0):=by
  rw[ht0,hNM,ah,F6,Gy,EO];have hl:(br X).data.toList.length=t:=by rw[<-Lib.size_eq,cX,hXs]
  constructor
  ·intro e
   rw[e] at hl;simpa using hl.symm
  ·intro e
   exact EU (by omega)
 obtain⟨F,hF⟩:∃F,F=cy (s.data.toList.drop t):=⟨_,rfl⟩
 have hW:aW s=if t0=true then ((⟨#[]⟩,0,3):ByteArray×Nat×Int) else A6 NM F:=by
  unfold aW;rw[if_neg h0];have ht':t=aU s.data.toList:=ht;rw[<-ht',<-hF,hNM,hX,ht00];by_cases h:t=0
  ·rw[if_pos h,if_pos (by simpa using h)]
  ·rw[if_neg h,if_neg (by simpa using h)]
   cases F<;>rfl
 have HW:=lH hW;have HT:=lH ht;have HX:=lH hX;have HNM:=lH hNM;have HF:=lH hF;have HTL:=lH htl;have HXS:Hid (X.size<=1000000):=by show _<=_;omega
 clear h0 ht hX hXs hNM ht0 ht00 hF hW htl;have hag:∀W,(isAgg 171).run Tryz.prog W=.ok false W:=fun W=>by kernel_rfl
 have HAG:=lH hag;clear hag;go_enter Tryz.func151,Tryz.ntmps151
 go_wp2_with fail
 refine(sI s _).mono ?_;rintro e1 w1 ⟨rfl,hw1⟩;rw[World.size_alloc];have hc1:bo w1 (w.heap.size+1) s 0:=by rw[hw1];exact HCN.out
 have kl1:af w1 w.heap.size #[.slice none 0 0] 171:=by rw[hw1];exact(af.new _ _ _).alloc _
 have hb1:Below w.heap.size w w1:=by rw[hw1];exact((EK _ _).alloc (nR _) _).alloc (by simp) _
 have hz1:w1.heap.size=w.heap.size+2:=by rw[hw1];simp
 have hsb:Below w1.heap.size w1 (w1.alloc (.cells #[.pointer (some ⟨w.heap.size+1,0,none⟩)] 203)):=(EK _ _).alloc (nR _) _;have HC2:=lH (hc1.call hsb);have KC2:Hid (af (w1.alloc (.cells #[.pointer (some ⟨w.heap.size+1,0,none⟩)] 203)) w1.heap.size #[.pointer (some ⟨w.heap.size+1,0,none⟩)] 203):=af.new _ _ _;have HZ1:=lH hz1;have KL2:=lH (kl1.call hsb);have HB2:Hid (Below w.heap.size w (w1.alloc (.cells #[.pointer (some ⟨w.heap.size+1,0,none⟩)] 203))):=hb1.trans (hsb.mono hb1.size);have HZ2:Hid ((w1.alloc (.cells #[.pointer (some ⟨w.heap.size+1,0,none⟩)] 203)).heap.size=w.heap.size+3):=by show _=_;simp;omega
 clear hw1 hc1 kl1 hb1 hz1 hsb HCN;go_wp2_with fail
 refine(kg HC2.out hs).mono ?_;rintro e3 w3 ⟨rfl,hc3,ht3⟩;rw[<-HT.out,FQ] at hc3 ⊢;rw[<-HX.out];have HC3:=lH hc3;have KC3:=lH (KC2.out.touch ht3 (fun e=>by have h:w1.heap.size=w.heap.size+1:=e;have h2:=HZ1.out;omega));have KL3:=lH (KL2.out.touch ht3 (fun e=>by have h:w.heap.size=w.heap.size+1:=e;omega));have HB3:Hid (Below w.heap.size w w3):=HB2.out.trans (ht3.below (fun k _ hk=>by rw[show k=w.heap.size+1 from hk];omega) HB2.out.size);have HZ3:Hid (w.heap.size+3<=w3.heap.size):=by show _<=_;rw[<-HZ2.out];exact ht3.size
 clear hc3 ht3;go_wp2_with fail
 refine(nr X HXS.out w3).mono ?_;rintro e4 w4 ⟨rfl,hb4⟩;rw[<-HNM.out];obtain⟨B,hB⟩:∃B,B=w4.heap.size+1:=⟨_,rfl⟩;have hsb:Below w4.heap.size w4 (w4.alloc (.cells #[.bool t0] 4)):=(EK _ _).alloc (nR _) _;have hsb2:Below w3.heap.size w3 (w4.alloc (.cells #[.bool t0] 4)):=hb4.trans (hsb.mono hb4.size)
 have PR:Hid (Az (w4.alloc (.cells #[.bool t0] 4)) (w.heap.size+1) w1.heap.size w4.heap.size w.heap.size B t s t0 (.slice none 0 0) []):=
  ⟨HC3.out.call hsb2,KC3.out.call hsb2,af.new _ _ _,KL3.out.call hsb2,Fv _ _ _ _,by have h1:=HZ3.out;have h2:=hb4.size;have h3:=HZ1.out;omega,by rw[hB];simp⟩
 have HBP:Hid (Below w.heap.size w (w4.alloc (.cells #[.bool t0] 4))):=HB3.out.trans (hsb2.mono HB3.out.size);have HBW:Hid (w.heap.size<B/\w.heap.size<=w4.heap.size):=by have h1:=HZ3.out;have h2:=hb4.size;exact⟨by omega,by omega⟩
 clear hb4 hB hsb hsb2 HC2 KC2 KL2 HB2 HZ2 HC3 KC3 KL3;have c0:=PR.out.kc.cell 0;have b0:=PR.out.kb.cell 0;simp at c0 b0;obtain⟨g4,hg4⟩:∃g,g=w4.heap.size:=⟨_,rfl⟩;cases t0 with
 | true=>
   have HWE:Hid (aW s=(⟨#[]⟩,0,3)):=by show _=_;rw[HW.out,if_pos rfl]
   have l0:=PR.out.kl.cell 0;have f0:=PR.out.kl.froz 0;simp at l0;clear hg4;go_wp2_with fail
   refine wp_loop_rounds 1 ?_;rw[rounds_succ];go_wp2_with fail
   refine EW (v:=.tuple #[.string ⟨#[]⟩,.slice none 0 0,.int .i64 3]) (ec Tryz.results151 _ _ _ w.heap.size (.slice none 0 0) rfl ((qH PR.out.kl (.slice none 0 0)).cell 0) HAG.out) rfl ?_;rw[HWE.out];exact⟨none,0,rfl,HBP.out.setCell (p:=⟨w.heap.size,0,none⟩) (nR _) _⟩
 | false=>
   have hcd:=qN PR.out.c hs;have HWE:Hid (aW s=A6 NM F):=by show _=_;rw[HW.out,if_neg (by decide)]
   have HCD:=lH hcd;clear hcd;go_wp2_with fail
   refine HCD.out.mono ?_;rintro e5 w5 ⟨rfl,hb5⟩
   have PR5:Hid (Az w5 (w.heap.size+1) w1.heap.size g4 w.heap.size B t s false (.slice none 0 0) []):=by
    rw[hg4];exact⟨PR.out.c.call hb5,PR.out.kc.call hb5,PR.out.kb.call hb5,PR.out.kl.call hb5,Fv _ _ _ _,PR.out.lt,nT PR.out.sz hb5.size⟩
   have HB5:Hid (Below w.heap.size w w5):=HBP.out.trans (hb5.mono HBP.out.size);have HG4:Hid (w.heap.size<=g4):=by rw[hg4];exact HBW.out.2
   rw[<-hg4];clear hb5 c0 b0 hg4 HCD PR HBP;go_wp2_with fail
   go_loopw [8] (fun u8 wr=>∃(a:Nat) (xs:List Fd) (v:Value) (more bad:Bool),u8=.bool more/\Az wr (w.heap.size+1) w1.heap.size g4 w.heap.size B a s bad v xs/\(bad=true->more=false/\F=none)/\(bad=false->xs.length<=a/\F=(cy (s.data.toList.drop a)).map (·+xs.length)/\more=!(s.data.toList.drop a).isEmpty)/\Below w.heap.size w wr) (fun u8 wr=>fV s.size (w.heap.size+1) u8 wr)
   case atStart=>exact⟨t,[],.slice none 0 0,_,false,rfl,PR5.out,(fun h=>by cases h),fun _=>⟨EN _,by rw[HF.out];cases cy (s.data.toList.drop t)<;>rfl,rfl⟩,HB5.out⟩
   case round=>
    obtain⟨a,xs,v,more,bad,rfl,hpr,hbd,hok,hb⟩:=hrel;have HPR:=lH hpr;have HBD:=lH hbd;have HOK:=lH hok;have HB:=lH hb;have k0:=hpr.kb.cell 0;have l0:=hpr.kl.cell 0;have f0:=hpr.kl.froz 0;simp at k0 l0;clear hpr hbd hok hb;cases more with
    | true=>
      have hb0:bad=false:=by
       cases bad with
       | false=>rfl
       | true=>exact absurd (HBD.out rfl).1 (by decide)
      subst hb0;obtain⟨hxl,hFa,hmo⟩:=HOK.out rfl
      have hne:s.data.toList.drop a≠[]:=by
       intro e;rw[e] at hmo;cases hmo
      have hFs:=Cd hne;have hal:=HPR.out.c.le;have HNX:=lH (Bz wr (w.heap.size+1) w1.heap.size g4 w.heap.size B a s hs v xs HPR.out (by omega));obtain⟨PF,hPF⟩:∃P,P=cV (s.data.toList.drop a):=⟨_,rfl⟩;rw[<-hPF] at HNX hFs
      have HFA:Hid (F=(BQ (s.data.toList.drop a) PF).map (·+xs.length)):=by
       show _=_;rw[hFa,hFs]
      have HP2:Hid (∀n,PF=some n->2<=n):=by
       show ∀n,_->_;intro n hn;rw[hPF] at hn;exact(mV hn).1
      have HXL:=lH hxl;have HCP:Hid (rL wr (w.heap.size+1)=a):=qX HPR.out.c;have HALE:=lH hal;have HVB:=lH (fun k hk=>(gz HPR.out.o k hk).1:∀k,v.ownBlock=some k->B<=k);clear hxl hFa hmo hne hFs hal hPF;go_wp2_with (go_at_call 192;refine HNX.out.mono ?_;rintro e6 w6 ⟨a',v',q,rfl,hn6,hp6,ht6⟩;have HN6:=lH hn6;have HP6:=lH hp6;have HB6:Hid (Below w.heap.size w w6):=(HB.out.trans (ht6.below (B:=w.heap.size) (fun k _ hk=>by rcases hk with e|e|e|e;(rw[show k=w.heap.size+1 from e];omega);(rw[e];exact HG4.out);(rw[e];exact nR _);(have h1:=HVB.out k e;have h2:=HBW.out.1;omega)) HB.out.size));clear hn6 hp6 ht6)
      go_roundw
      case rel=>
       refine⟨a',xs++[q],v',_,PF.isNone,rfl,HP6.out,fun h=>?_,fun h=>?_,HB6.out⟩
       ·cases PF with
        | none=>exact⟨rfl,by rw[HFA.out];rfl⟩
        | some n=>cases h
       ·cases PF with
        | none=>cases h
        | some n=>
          have h1:=HN6.out n rfl;have h2:=HP2.out n rfl;have h3:=HXL.out;refine⟨by rw[EY,GL];omega,?_,rfl⟩;rw[HFA.out,h1,EY,GL];unfold BQ;simp only;rw[Fb];cases cy (s.data.toList.drop (a+n)) with
          | none=>rfl
          | some k=>simp;omega
      case measure=>
       have h3:=HCP.out;have h4:=HALE.out;have h5:=qX HP6.out.c;have h6:=HP6.out.c.le;cases PF with
       | none=>
         show 0<fV s.size (w.heap.size+1) (.bool true) wr;unfold fV;simp only;omega
       | some n=>
         have h1:=HN6.out n rfl;have h2:=HP2.out n rfl;cases he:(s.data.toList.drop a').isEmpty with
         | true=>
           show 0<fV s.size (w.heap.size+1) (.bool true) wr;unfold fV;simp only;omega
         | false=>
           show fV s.size (w.heap.size+1) (.bool true) w6<fV s.size (w.heap.size+1) (.bool true) wr;unfold fV;simp only;omega
    | false=>
      cases bad with
      | true=>
        have HE:Hid (aW s=(⟨#[]⟩,0,3)):=by show _=_;rw[HWE.out,(HBD.out rfl).2];rfl
        go_wp2_with fail
        refine EW (v:=.tuple #[.string ⟨#[]⟩,.slice none 0 0,.int .i64 3]) (ec Tryz.results151 _ _ _ w.heap.size (.slice none 0 0) rfl ((qH HPR.out.kl (.slice none 0 0)).cell 0) HAG.out) rfl ?_;rw[HE.out];first|exact⟨none,0,rfl,HB.out.setCell (p:=⟨w.heap.size,0,none⟩) (nR _) _⟩|exact⟨⟨none,0,rfl⟩,HB.out.setCell (p:=⟨w.heap.size,0,none⟩) (nR _) _⟩
      | false=>
        obtain⟨_,hFa,hmo⟩:=HOK.out rfl
        have he:s.data.toList.drop a=[]:=by
         cases hd:s.data.toList.drop a with
         | nil=>rfl
         | cons b l=>rw[hd] at hmo;cases hmo
        rw[he,jp] at hFa
        have HE:Hid (aW s=(NM,xs.length,0)):=by
         show _=_;rw[HWE.out,hFa];show A6 NM (some (0+xs.length))=_;rw[FQ];rfl
        obtain⟨pv,cv,rfl⟩:=aC HPR.out.o;clear hFa hmo he;go_wp2_with fail
        refine aE 3 (by kernel_rfl) (by kernel_rfl) ?_;simp only[Ft,FG,Fz,Ff];repeat go_big_quiet_step (fail)
        refine FD ?_;rintro _ ⟨nq,rfl⟩;go_wp2_with fail
        have kq:af (wr.drewN nq) w.heap.size #[.slice pv xs.length cv] 171:=HPR.out.kl;refine EW (v:=.tuple #[.string NM,.slice pv xs.length cv,.int .i64 0]) (ec Tryz.results151 _ _ _ w.heap.size (.slice pv xs.length cv) rfl ((qH kq (.slice pv xs.length cv)).cell 0) HAG.out) rfl ?_;rw[HE.out];have hfin:=(eN HB.out nq).setCell (p:=⟨w.heap.size,0,none⟩) (nR _) (.slice pv xs.length cv);first|exact⟨pv,cv,rfl,hfin⟩|exact⟨⟨pv,cv,rfl⟩,hfin⟩
theorem Bn (s:ByteArray) (hs:s.size<=1000000) (w:World):
 Calls Tryz.prog 148 #[.string s] w fun e w'=>e=.returned (.tuple #[.string (aW s).1,.bool (decide (0<(aW s).2.1)),.bool (pB s)])/\Below w.heap.size w w':=by
 have HP:=lH (od s hs w);unfold pB;obtain⟨⟨nm,k,e⟩,hW⟩:∃W,W=aW s:=⟨_,rfl⟩;rw[<-hW] at HP ⊢;simp only at HP ⊢;obtain⟨q,hq⟩:∃q,q=(e==0):=⟨_,rfl⟩;have hqe:(e==0)=q:=hq.symm;rw[hqe];obtain⟨r,hr⟩:∃r,r=decide (0<k):=⟨_,rfl⟩;have hre:decide (0<k)=r:=hr.symm;have hri:decide ((0:Int)<(k:Int))=r:=by rw[hr];exact decide_eq_decide.2 (by omega)
 rw[hre];clear hW hq hr;go_enter Tryz.func148,Tryz.ntmps148
 go_wp2_with (go_at_call 151;refine HP.out.mono ?_;rintro e1 w1 ⟨p1,c1,rfl,hb⟩;have HB:=lH hb;clear hb)
 refine EW (v:=.tuple #[.string nm,.bool r,.bool q]) (by simp[results,Tryz.results148,go_sem]) rfl ?_;exact⟨rfl,HB.out⟩
end Go.Proofs.YthjbodpeckebiaaGreatDoor
-- RfB
namespace Go.Proofs.YthjbodpeckebiaaGreatDoor
open Go.RowKit
theorem bg (s:ByteArray) (hs:s.size<=1000000) (w:World):Calls Tryz.prog 199 #[.string s] w fun e w'=>e=.returned (.int .i64 (ag s.data.toList))/\w=w':=by
 have hsi:(s.size:Int)<=1000000:=by omega
 go_enter Tryz.func199,Tryz.ntmps199
 go_wp2_with fail
 go_loop [3] (fun i=>∃k:Nat,k<=s.size/\i=.int .i64 k/\∀j,j<k->cE (bt s j)=true) (fun i=>s.size - (intOf i).toNat)
 case atStart=>exact⟨0,by omega,rfl,fun j hj=>by omega⟩
 case round=>
  obtain⟨k,hk,rfl,hall⟩:=hrel;have HA:=lH hall;clear hall;by_cases hlt:k<s.size
  ·have hk1:decide ((k:Int)<(s.size:Int))=true:=dT (by omega)
   obtain⟨b,hb⟩:∃b,b=bt s k:=⟨_,rfl⟩;have hix:∀W:World,(Instr.index 9 (.string s) (.int .i64 k)).run Tryz.prog W=.ok (.int .u8 b) W:=by rw[hb];exact aj s k hlt
   have HB:=lH hb;clear hb;by_cases h32:b=32
   ·have e1:(b==32)=true:=by rw[FA];exact h32
    have hbl:Hid (cE b=true):=dx (.inl h32);clear h32;go_wp2_with fail
    go_round
    case rel=>exact⟨k+1,hlt,by go_num,fun j hj=>by
     rcases FM j k with h|h
     ·exact HA.out j h
     ·rw[show j=k by omega,<-HB.out];exact hbl.out⟩
    case measure=>simp[intOf];omega
   ·have e1:(b==32)=false:=by rw[EJ];exact h32
    by_cases h9:b=9
    ·have e2:(b==9)=true:=by rw[FA];exact h9
     have hbl:Hid (cE b=true):=dx (.inr h9);clear h32 h9;go_wp2_with fail
     go_round
     case rel=>exact⟨k+1,hlt,by go_num,fun j hj=>by
      rcases FM j k with h|h
      ·exact HA.out j h
      ·rw[show j=k by omega,<-HB.out];exact hbl.out⟩
     case measure=>simp[intOf];omega
    ·have e2:(b==9)=false:=by rw[EJ];exact h9
     have hbl:Hid (cE b=false):=eJ h32 h9
     have HE:Hid (ag s.data.toList=k):=by
      show _=_;exact jg (P:=cE) (fun _=>rfl) hk HA.out (Or.inr ⟨hlt,by rw[<-HB.out];exact hbl.out⟩)
     clear h32 h9;go_wp2_with fail
     go_ret;rw[HE.out];exact⟨rfl,rfl⟩
  ·have hk1:decide ((k:Int)<(s.size:Int))=false:=dF (by omega)
   have HE:Hid (ag s.data.toList=k):=by
    show _=_;exact jg (P:=cE) (fun _=>rfl) hk HA.out (Or.inl (by omega))
   go_wp2_with fail
   go_ret;rw[HE.out];exact⟨rfl,rfl⟩
theorem ck (s:ByteArray) (hs:s.size<=1000000) (w:World):Calls Tryz.prog 161 #[.string s] w fun e w'=>e=.returned (.int .i64 (aU s.data.toList))/\w=w':=by
 have hsi:(s.size:Int)<=1000000:=by omega
 go_enter Tryz.func161,Tryz.ntmps161
 go_wp2_with fail
 go_loop [3] (fun i=>∃k:Nat,k<=s.size/\i=.int .i64 k/\∀j,j<k->aG (bt s j)=true) (fun i=>s.size - (intOf i).toNat)
 case atStart=>exact⟨0,by omega,rfl,fun j hj=>by omega⟩
 case round=>
  obtain⟨k,hk,rfl,hall⟩:=hrel;have HA:=lH hall;clear hall;by_cases hlt:k<s.size
  ·have hk1:decide ((k:Int)<(s.size:Int))=true:=dT (by omega)
   have hr:=bi s k;obtain⟨b,hb⟩:∃b,b=bt s k:=⟨_,rfl⟩;have hix:∀W:World,(Instr.index 9 (.string s) (.int .i64 k)).run Tryz.prog W=.ok (.int .u8 b) W:=by rw[hb];exact aj s k hlt
   rw[<-hb] at hr;have HT:=lH (fun W=>oO b hr.1 (by omega) W);have HB:=lH hb;clear hb hr;cases ht:aG b with
   | true=>
     rw[ht] at HT;have hbl:=lH ht;clear ht;go_wp2_with (go_at_call 155;refine(HT.out _).mono ?_;rintro e' w' ⟨rfl,rfl⟩)
     go_round
     case rel=>exact⟨k+1,hlt,by go_num,fun j hj=>by
      rcases FM j k with h|h
      ·exact HA.out j h
      ·rw[show j=k by omega,<-HB.out];exact hbl.out⟩
     case measure=>simp[intOf];omega
   | false=>
     rw[ht] at HT
     have HE:Hid (aU s.data.toList=k):=by
      show _=_;exact jg (P:=aG) (fun _=>rfl) hk HA.out (Or.inr ⟨hlt,by rw[<-HB.out];exact ht⟩)
     clear ht;go_wp2_with (go_at_call 155;refine(HT.out _).mono ?_;rintro e' w' ⟨rfl,rfl⟩)
     go_ret;rw[HE.out];exact⟨rfl,rfl⟩
  ·have hk1:decide ((k:Int)<(s.size:Int))=false:=dF (by omega)
   have HE:Hid (aU s.data.toList=k):=by
    show _=_;exact jg (P:=aG) (fun _=>rfl) hk HA.out (Or.inl (by omega))
   go_wp2_with fail
   go_ret;rw[HE.out];exact⟨rfl,rfl⟩
theorem wI (s:ByteArray) (k:Nat) (h:k<s.size):(s.extract k (k+1)).data.toList=[s[k]'h]:=by
 rw[Lib.extract_data,show k+1 - k=1 by omega,Fa (by simpa using h)];rfl
theorem tL (b:UInt8):ff [b]=ax b.toNat:=by unfold ff;simp
theorem t8 (acc:List UInt8) (c:UInt8) (x:ByteArray) (h:x.data.toList=[c]):(⟨acc.toArray⟩:ByteArray)++x=⟨(acc++[c]).toArray⟩:=by
 apply bj;rw[ByteArray.data_append,Array.toList_append,h]
theorem tG (s:ByteArray) (hs:s.size<=1000000) {Q:Option (Nat×List UInt8)} (hQ:Q=pS s.data.toList) (w:World):
 Calls Tryz.prog 200 #[.string s] w fun e w'=>e=.returned (.tuple #[.string (quT Q),.int .i64 (Ek Q)])/\w=w':=by
 have hsi:(s.size:Int)<=1000000:=by omega
 have hsl:s.data.toList.length=s.size:=by simp
 have HSL:=lH hsl;by_cases h0:s.size=0
 ·have hq0:Q=none:=by
   rw[hQ];have:s.data.toList=[]:=EU (by omega);rw[this];rfl
  have HQ:=lH hq0;have e0:((s.size:Int)==0)=true:=by rw[FA];omega
  clear hq0 hQ hsl h0;go_enter Tryz.func200,Tryz.ntmps200
  go_wp2_with fail
  go_ret2
  rw[HQ.out];exact⟨rfl,rfl⟩
 have hp:0<s.size:=by omega
 have e0:((s.size:Int)==0)=false:=by rw[EJ];omega
 have hix0:∀W:World,(Instr.index 9 (.string s) (.int .i64 0)).run Tryz.prog W=.ok (.int .u8 (bt s 0)) W:=aj s 0 hp;obtain⟨c,hc,hdr⟩:=aL s 0 hp;rw[Ff] at hdr;obtain⟨x,hx⟩:∃x,x=bt s 0:=⟨_,rfl⟩;rw[<-hx] at hix0 hc;by_cases hm:x=34
 rotate_left
 ·have hq0:Q=none:=by
   rw[hQ,hdr];unfold pS;simp only;rw[if_neg];rintro rfl;exact hm hc
  have HQ:=lH hq0;have x34a:(x==34)=false:=by rw[EJ];exact hm
  have x34b:(x != 34)=true:=by rw[FP];exact hm
  clear hq0 hQ hsl h0 hm hc hdr hx;go_enter Tryz.func200,Tryz.ntmps200
  go_wp2_with fail
  go_ret2
  rw[HQ.out];exact⟨rfl,rfl⟩
 have hc34:c=34:=Fg.1 (by
  have:(34:UInt8).toNat=34:=rfl
  omega)
 have hQ0:Hid (Q=(kP (s.data.toList.drop 1)).map (fun p=>(p.1+1,[]++p.2))):=by
  show _=_;rw[hQ,hdr,hc34];rfl
 subst hm;clear hQ hsl h0 hc hdr hx hc34;go_enter Tryz.func200,Tryz.ntmps200
 go_wp2_with fail
 go_loop [4,5] (fun u4 u5=>∃(k:Nat) (acc:List UInt8),1<=k/\k<=s.size/\u5=.int .i64 k/\u4=.string ⟨acc.toArray⟩/\Q=(kP (s.data.toList.drop k)).map (fun p=>(p.1+k,acc++p.2))/\acc.length<=k) (fun _ u5=>s.size - (intOf u5).toNat)
 case atStart=>exact⟨1,[],nR _,hp,rfl,rfl,hQ0.out,EN _⟩
 case round=>
  obtain⟨k,acc,hk1,hk,rfl,rfl,hq,hac⟩:=hrel;clear hQ0;obtain⟨T,hT⟩:∃T:ByteArray,T=⟨acc.toArray⟩:=⟨_,rfl⟩;rw[<-hT];have hTz:T.size=acc.length:=by rw[hT];rfl
  have HTE:=lH hT;have HAC:=lH hac;have hTi:T.size<=1000000:=by omega
  clear hT hac hTz;by_cases hlt:k<s.size
  ·have hk1:decide ((k:Int)<(s.size:Int))=true:=dT (by omega)
   have hix2:=aj s k hlt;obtain⟨c,hc,hdr⟩:=aL s k hlt
   have hcs:c=s[k]'hlt:=by
    have:=aA s k hlt;apply Fg.1;omega
   have HCS:Hid ((s.extract k (k+1)).data.toList=[c]):=by show _=_;rw[hcs];exact wI s k hlt
   obtain⟨x,hx⟩:∃x,x=bt s k:=⟨_,rfl⟩;rw[<-hx] at hix2 hc;rw[hdr] at hq;clear hcs;by_cases h34:x=34
   ·have hc34:c=34:=Fg.1 (by
    have:(34:UInt8).toNat=34:=rfl
    omega)
    rw[hc34,tJ] at hq;have HQ:Hid (Q=some (1+k,acc)):=by show _=_;rw[hq];simp
    subst h34;clear hx hc hdr hq hc34;go_wp2_with fail
    go_ret2
    rw[HQ.out];refine⟨?_,rfl⟩;show Ending.returned (.tuple #[.string T,.int .i64 ((k:Int)+1)])=.returned (.tuple #[.string ⟨acc.toArray⟩,.int .i64 ((1+k:Nat):Int)]);rw[HTE.out,show ((1+k:Nat):Int)=(k:Int)+1 by omega]
   have x34a:(x==34)=false:=by rw[EJ];exact h34
   have hc34:c≠34:=by rintro rfl;exact h34 hc
   by_cases h92:x=92
   ·have hc92:c=92:=Fg.1 (by
    have:(92:UInt8).toNat=92:=rfl
    omega)
    rw[hc92] at hq;subst h92;by_cases hend:k+1=s.size
    ·have e1:decide ((s.size:Int)<=(k:Int)+1)=true:=dT (by omega)
     have HQ:Hid (Q=none):=by
      show _=_;rw[hq,hend,E6 (by have:=HSL.out;omega),pD];rfl
     clear hx hc hdr hq hc92 hc34 h34 hend;go_wp2_with fail
     go_ret2
     rw[HQ.out];exact⟨rfl,rfl⟩
    ·have e1:decide ((s.size:Int)<=(k:Int)+1)=false:=dF (by omega)
     have hlt2:k+1<s.size:=by omega
     obtain⟨d,hd,hdr2⟩:=aL s (k+1) hlt2
     have hds:d=s[k+1]'hlt2:=by
      have:=aA s (k+1) hlt2;apply Fg.1;omega
     have HDS:(s.extract (k+1) (k+1+1)).data.toList=[d]:=by rw[hds];exact wI s (k+1) hlt2
     have HQ:Hid (Q=if ax d.toNat=true then (kP (s.data.toList.drop (k+2))).map (fun p=>(p.1+(k+2),(acc++[d])++p.2)) else none):=by
      show _=_;rw[hq,hdr2,tV];split
      ·rw[GM]
       congr 1
       funext p
       simp;omega
      ·rfl
     clear hx hc hdr hq hc92 hc34 h34 hend hd hdr2 hds;obtain⟨X,hX⟩:∃X,X=s.extract (k+1) (k+1+1):=⟨_,rfl⟩;rw[<-hX] at HDS;have hXz:X.size=1:=by rw[hX];simp;omega
     have HX:=lH hX;have HVL:=lH (fun W=>fM X (by omega) W);rw[HDS,tL] at HVL;have HS2:Hid (T++X=⟨(acc++[d]).toArray⟩):=by show _=_;rw[HTE.out];exact t8 acc d X HDS
     have hsl:∀W:World,(Instr.slice 9 (.string s) (some (.int .i64 ((k:Int)+1))) (some (.int .i64 ((k:Int)+1+1))) none).run Tryz.prog W=.ok (.string X) W:=fun W=>by
      rw[hX];rw[run_slice_string W 9 s .i64 .i64 ((k:Int)+1) ((k:Int)+1+1) Tryz.underlying9 (by omega) (by omega) (by omega),show ((k:Int)+1).toNat=k+1 by omega,show ((k:Int)+1+1).toNat=k+1+1 by omega]
     have hadd:=fun(W:World)=>run_string_add_sum (P:=Tryz.prog) (w:=W) T X (by omega);clear hX HDS;cases hv:ax d.toNat with
     | true=>
       rw[hv] at HVL;have HQ2:=HQ.out;rw[if_pos hv] at HQ2;have HQ3:=lH HQ2;clear hv HQ2;go_wp2_with (go_at_call 125;refine(HVL.out _).mono ?_;rintro e3 w3 ⟨rfl,rfl⟩)
       go_round
       case rel=>exact⟨k+2,acc++[d],by omega,by omega,by go_num,by rw[HS2.out],HQ3.out,by have:=HAC.out;simp;omega⟩
       case measure=>simp[intOf];omega
     | false=>
       rw[hv] at HVL;have HQ2:=HQ.out;rw[if_neg (by rw[hv];decide)] at HQ2;have HQ3:=lH HQ2;clear hv HQ2;go_wp2_with (go_at_call 125;refine(HVL.out _).mono ?_;rintro e3 w3 ⟨rfl,rfl⟩)
       go_ret2
       rw[HQ3.out];exact⟨rfl,rfl⟩
   have x92a:(x==92)=false:=by rw[EJ];exact h92
   have e1:decide ((s.size:Int)<=(k:Int))=false:=dF (by omega);have e1n:decide (s.size<=k)=false:=dF (by omega);have hc92:c≠92:=by rintro rfl;exact h92 hc
   have HQ:Hid (Q=if ax c.toNat=true then (kP (s.data.toList.drop (k+1))).map (fun p=>(p.1+(k+1),(acc++[c])++p.2)) else none):=by
    show _=_;rw[hq,xh _ hc34 hc92];split
    ·rw[GM]
     congr 1
     funext p
     simp;omega
    ·rfl
   clear hx hc hdr hq hc92 hc34 h34 h92;obtain⟨X,hX⟩:∃X,X=s.extract k (k+1):=⟨_,rfl⟩;rw[<-hX] at HCS;have hXz:X.size=1:=by rw[hX];simp;omega
   have HVL:=lH (fun W=>fM X (by omega) W);rw[HCS.out,tL] at HVL;have HS2:Hid (T++X=⟨(acc++[c]).toArray⟩):=by show _=_;rw[HTE.out];exact t8 acc c X HCS.out
   have hsl:∀W:World,(Instr.slice 9 (.string s) (some (.int .i64 (k:Int))) (some (.int .i64 ((k:Int)+1))) none).run Tryz.prog W=.ok (.string X) W:=fun W=>by
    rw[hX];rw[run_slice_string W 9 s .i64 .i64 (k:Int) ((k:Int)+1) Tryz.underlying9 (by omega) (by omega) (by omega),EX,show ((k:Int)+1).toNat=k+1 by omega]
   have hadd:=fun(W:World)=>run_string_add_sum (P:=Tryz.prog) (w:=W) T X (by omega);clear hX HCS;cases hv:ax c.toNat with
   | true=>
     rw[hv] at HVL;have HQ2:=HQ.out;rw[if_pos hv] at HQ2;have HQ3:=lH HQ2;clear hv HQ2;go_wp2_with (go_at_call 125;refine(HVL.out _).mono ?_;rintro e3 w3 ⟨rfl,rfl⟩)
     go_round
     case rel=>exact⟨k+1,acc++[c],by omega,by omega,by go_num,by rw[HS2.out],HQ3.out,by have:=HAC.out;simp;omega⟩
     case measure=>simp[intOf];omega
   | false=>
     rw[hv] at HVL;have HQ2:=HQ.out;rw[if_neg (by rw[hv];decide)] at HQ2;have HQ3:=lH HQ2;clear hv HQ2;go_wp2_with (go_at_call 125;refine(HVL.out _).mono ?_;rintro e3 w3 ⟨rfl,rfl⟩)
     go_ret2
     rw[HQ3.out];exact⟨rfl,rfl⟩
  ·have hk1:decide ((k:Int)<(s.size:Int))=false:=dF (by omega)
   have HQ:Hid (Q=none):=by
    show _=_;rw[hq,E6 (by have:=HSL.out;omega),xe];rfl
   clear hq;go_wp2_with fail
   go_ret2
   rw[HQ.out];exact⟨rfl,rfl⟩
end Go.Proofs.YthjbodpeckebiaaGreatDoor
-- RfC
namespace Go.Proofs.YthjbodpeckebiaaGreatDoor
open Go.RowKit
theorem av (S:ByteArray) (k:Nat) (h:k<=S.size):∃R:ByteArray,R.data.toList=S.data.toList.drop k/\R.size=S.size - k/\∀W:World,(Instr.slice 9 (.string S) (some (.int .i64 (k:Int))) none none).run Tryz.prog W=.ok (.string R) W:=by
 refine⟨S.extract k S.size,de S k,by simp,fun W=>?_⟩;rw[FR W 9 S Tryz.underlying9 .i64 (k:Int) (by omega) (by omega),EX]
theorem gw (S:ByteArray) (k:Nat) (h:k<=S.size):∃R:ByteArray,R.data.toList=S.data.toList.take k/\R.size=k/\∀W:World,(Instr.slice 9 (.string S) none (some (.int .i64 (k:Int))) none).run Tryz.prog W=.ok (.string R) W:=by
 refine⟨S.extract 0 k,by rw[Lib.extract_data,Ff,Nat.sub_zero],by simp;omega,fun W=>?_⟩;rw[run_slice_string_h W 9 S Tryz.underlying9 .i64 (k:Int) (by omega) (by omega),EX]
theorem cG {P:Program} {fn:Func} {p u q:Tmp} {ty:TypeId} (h:fn.results=#[.cell p ty,.tmp u,.tmp q]) (tmps:Array Value) (w:World) (g:Nat) (cs:Array Value)
 (hp:tmps.getD p undef=.pointer (some ⟨g,0,none⟩)) (hl:(loadVar ty ⟨g,0,none⟩).run P w=.ok (.agg cs) w):
 (results fn tmps).run P w=.ok (.tuple #[.agg cs,tmps.getD u undef,tmps.getD q undef]) w:=by
 simp only[Array.getD_eq_getD_getElem?] at hp;simp only[results,h];simp[Sem.run_bind,Result.andThen,hp,asAddr,hl,Sem.run_pure]
theorem rP {s:ByteArray} {b:UInt8} {t:List UInt8} (h:s.data.toList=b :: t):0<s.size/\bt s 0=b.toNat/\t=s.data.toList.drop 1:=by
 have hz:0<s.size:=by
  have h1:s.data.toList.length=s.size:=by simp
  rw[h] at h1;simp only[EQ] at h1;omega
 refine⟨hz,?_,by rw[h];rfl⟩;obtain⟨c,hc,hd⟩:=aL s 0 hz;rw[Ff,h] at hd;injection hd with e1 _
 rw[hc,e1]
def iP (l:List UInt8) (w:World) (e:Ending) (w':World):Prop:=
 ∃(n v r:ByteArray),e=.returned (.tuple #[.agg #[.string n,.string v],.string r,.bool (cV l).isSome])/\(∀m,cV l=some m->r.data.toList=l.drop m)/\Below w.heap.size w w'
theorem sd (s:ByteArray) (hs:s.size<=1000000) (w:World) (h:s.data.toList.drop (ag s.data.toList)=[]):Calls Tryz.prog 162 #[.string s] w (iP s.data.toList w):=by
 have hp:cV s.data.toList=none:=by unfold cV;rw[h]
 have HP:=lH hp;have HK:=lH (bg s hs);have hk:=aT s.data.toList;obtain⟨k,hkk⟩:∃k,k=ag s.data.toList:=⟨_,rfl⟩;rw[<-hkk] at HK hk h;have hl:s.data.toList.length=s.size:=by simp
 obtain⟨S1,hS1,hz1,hsl1⟩:=av s k (by omega)
 have hz:S1.size=0:=by
  have:=FH List.length (hS1.trans h);simpa using this
 have e0:((S1.size:Int)==0)=true:=by rw[FA];omega
 have KB:=lH (af.new w #[.string ⟨#[]⟩,.string ⟨#[]⟩] 191);have HB:=lH ((EK w.heap.size w).alloc (nR _) (.cells #[.string ⟨#[]⟩,.string ⟨#[]⟩] 191));obtain⟨q0,q1⟩:=wF KB.out 0 1;obtain⟨q2,q3⟩:=xl KB.out 0 1;simp at q2 q3;clear h hkk hl hS1 hz1 hz hp hk;go_enter Tryz.func162,Tryz.ntmps162
 go_wp2_with (go_at_call 199;refine(HK.out _).mono ?_;rintro e1 w1 ⟨rfl,rfl⟩)
 refine EW (cG Tryz.results162 _ _ _ _ rfl (E7 _ _ _ _ _ _ _ (af.new w #[.string ⟨#[]⟩,.string ⟨#[]⟩] 191) Tryz.underlying191 rfl (by kernel_rfl))) rfl ?_;refine⟨⟨#[]⟩,⟨#[]⟩,⟨#[]⟩,?_,(fun m hm=>by rw[HP.out] at hm;cases hm),HB.out⟩;rw[HP.out];rfl
theorem fh {l r:List UInt8} {k:Nat} {b:UInt8} (h:l.drop k=b :: r):r=l.drop (k+1):=by
 have h2:=FH (List.drop 1) h;rw[Fb] at h2;rw[h2];rfl
theorem jz {l:List UInt8} {r:List UInt8} (h1:l.drop (ag l)=59 :: r) (ht:aU (r.drop (ag r))≠0):cV l=(iW ((r.drop (ag r)).drop (aU (r.drop (ag r))))).map (fun n=>ag l+1+ag r+aU (r.drop (ag r))+n):=by
 unfold cV;rw[h1];simp only;rw[if_pos trivial,if_neg ht,Fb]
theorem Ae {l:List UInt8} {b:UInt8} {r:List UInt8} (h1:l.drop (ag l)=b :: r) (hb:b≠59):cV l=none:=by
 unfold cV;rw[h1];simp only;rw[if_neg hb]
theorem Bf {l:List UInt8} {r:List UInt8} (h1:l.drop (ag l)=59 :: r) (ht:aU (r.drop (ag r))=0):cV l=none:=by
 unfold cV;rw[h1];simp only;rw[if_pos trivial,if_pos ht]
theorem uf {l:List UInt8} (h:l.drop (ag l)=[]\/∃b r,l.drop (ag l)=b :: r/\b≠61):iW l=some 0:=by
 unfold iW;rcases h with h|⟨b,r,h,hb⟩
 ·rw[h]
 ·rw[h];simp only;rw[if_neg hb]
theorem A7 {l r:List UInt8} (h:l.drop (ag l)=61 :: r) (ht:0<aU (r.drop (ag r))):iW l=some (ag l+1+ag r+aU (r.drop (ag r))):=by
 unfold iW;rw[h];simp only;rw[if_pos trivial,if_pos ht]
theorem Ac {l r:List UInt8} (h:l.drop (ag l)=61 :: r) (ht:aU (r.drop (ag r))=0):iW l=(pS (r.drop (ag r))).map (fun p=>ag l+1+ag r+p.1):=by
 unfold iW;rw[h];simp only;rw[if_pos trivial,if_neg (by omega)]
theorem DX {b:UInt8} {n:Nat} (hn:n<256) (h:b≠UInt8.ofNat n):((b.toNat:Int)==n)=false/\((b.toNat:Int) != n)=true:=by
 have:(b.toNat:Int)≠n:=fun e=>h (Fg.1 (by rw[UInt8.toNat_ofNat_of_lt' (by simpa using hn)];omega));exact⟨by rw[EJ];exact this,by rw[FP];exact this⟩
structure PrmS (s:ByteArray) (S1:ByteArray) (r:List UInt8) (b:UInt8):Prop where
 z:0<S1.size
 ix:∀W:World,(Instr.index 9 (.string S1) (.int .i64 0)).run Tryz.prog W=.ok (.int .u8 b.toNat) W
 d:S1.data.toList=b :: r
theorem xr {s S1:ByteArray} {r:List UInt8} {b:UInt8} (h:S1.data.toList=b :: r):PrmS s S1 r b:=by
 obtain⟨h1,h2,_⟩:=rP h;refine⟨h1,?_,h⟩;have h3:=aj S1 0 h1;rw[h2] at h3;exact h3
theorem vN (s:ByteArray) (hs:s.size<=1000000) (w:World) {b:UInt8} {r:List UInt8} (h:s.data.toList.drop (ag s.data.toList)=b :: r) (hb:b≠59):Calls Tryz.prog 162 #[.string s] w (iP s.data.toList w):=by
 have HP:=lH (Ae h hb);have HK:=lH (bg s hs);have hk:=aT s.data.toList;obtain⟨k,hkk⟩:∃k,k=ag s.data.toList:=⟨_,rfl⟩;rw[<-hkk] at HK hk h;have hl:s.data.toList.length=s.size:=by simp
 obtain⟨S1,hS1,hz1,hsl1⟩:=av s k (by omega);obtain⟨z0,ix0,_⟩:=xr (s:=s) (hS1.trans h);have e0:((S1.size:Int)==0)=false:=by rw[EJ];omega
 obtain⟨e1,e2⟩:=DX (n:=59) (by decide) hb;obtain⟨x,hx⟩:∃x:Int,x=(b.toNat:Int):=⟨_,rfl⟩;rw[<-hx] at ix0 e1 e2;have KB:=lH (af.new w #[.string ⟨#[]⟩,.string ⟨#[]⟩] 191);have HB:=lH ((EK w.heap.size w).alloc (nR _) (.cells #[.string ⟨#[]⟩,.string ⟨#[]⟩] 191));obtain⟨q0,q1⟩:=wF KB.out 0 1;obtain⟨q2,q3⟩:=xl KB.out 0 1;simp at q2 q3;clear h hkk hl hS1 hz1 hk z0 hx hb;go_enter Tryz.func162,Tryz.ntmps162
 go_wp2_with (go_at_call 199;refine(HK.out _).mono ?_;rintro e1 w1 ⟨rfl,rfl⟩)
 refine EW (cG Tryz.results162 _ _ _ _ rfl (E7 _ _ _ _ _ _ _ (af.new w #[.string ⟨#[]⟩,.string ⟨#[]⟩] 191) Tryz.underlying191 rfl (by kernel_rfl))) rfl ?_;refine⟨⟨#[]⟩,⟨#[]⟩,⟨#[]⟩,?_,(fun m hm=>by rw[HP.out] at hm;cases hm),HB.out⟩;rw[HP.out];rfl
end Go.Proofs.YthjbodpeckebiaaGreatDoor
-- RfC2
namespace Go.Proofs.YthjbodpeckebiaaGreatDoor
open Go.RowKit
def RgS (w:World) (g pb:Nat) (nm v:Value) (V:World):Prop:=af V pb #[nm,v] 191/\(∃a b,af V g #[a,b] 191)/\Below w.heap.size w V
theorem lv {w w4:World} {o:Obj} (hb:Below (w.alloc o).heap.size (w.alloc o) w4):w4.heap.size≠w.heap.size:=by
 have h2:=hb.size;simp at h2;omega
theorem bh {s:ByteArray}:s.data.toList.length=s.size:=by simp
theorem tA (s:ByteArray) (hs:s.size<=1000000) (w:World) {r:List UInt8} (h:s.data.toList.drop (ag s.data.toList)=59 :: r) (ht:aU (r.drop (ag r))=0):Calls Tryz.prog 162 #[.string s] w (iP s.data.toList w):=by
 have HP:=lH (Bf h ht);have HK1:=lH (bg s hs);have hk1:=aT s.data.toList;obtain⟨k1,hk1e⟩:∃k,k=ag s.data.toList:=⟨_,rfl⟩;rw[<-hk1e] at HK1 hk1 h;have hl:=bh (s:=s);obtain⟨S1,hS1,hz1,hsl1⟩:=av s k1 (by omega);obtain⟨z0,ix0,hd1⟩:=xr (s:=s) (hS1.trans h);have ix1:∀W:World,(Instr.index 9 (.string S1) (.int .i64 0)).run Tryz.prog W=.ok (.int .u8 59) W:=ix0;have e0:((S1.size:Int)==0)=false:=by rw[EJ];omega
 obtain⟨S2,hS2,hz2,hsl2'⟩:=av S1 1 (by omega);have hsl2:∀W:World,(Instr.slice 9 (.string S1) (some (.int .i64 1)) none none).run Tryz.prog W=.ok (.string S2) W:=hsl2';have hr:S2.data.toList=r:=by rw[hS2,hd1];rfl
 have HK2:=lH (bg S2 (by omega));have hk2:=aT S2.data.toList;rw[hr] at HK2 hk2;have hl2:=bh (s:=S2);rw[hr] at hl2;obtain⟨k2,hk2e⟩:∃k,k=ag r:=⟨_,rfl⟩;rw[<-hk2e] at HK2 hk2 ht;obtain⟨S3,hS3,hz3,hsl3⟩:=av S2 k2 (by omega);rw[hr] at hS3;have HT3:=lH (ck S3 (by omega));rw[hS3] at HT3;obtain⟨t,hte⟩:∃k,k=aU (r.drop k2):=⟨_,rfl⟩;rw[<-hte] at HT3 ht;have et:((t:Int)==0)=true:=by rw[FA];omega
 have KB:=lH (af.new w #[.string ⟨#[]⟩,.string ⟨#[]⟩] 191);have HB:=lH ((EK w.heap.size w).alloc (nR _) (.cells #[.string ⟨#[]⟩,.string ⟨#[]⟩] 191));obtain⟨q0,q1⟩:=wF KB.out 0 1;obtain⟨q2,q3⟩:=xl KB.out 0 1;simp at q2 q3;clear h ht hk1 hk1e hl hS1 hz1 z0 ix0 hd1 hS2 hz2 hsl2' hr hk2 hl2 hk2e hS3 hz3 hte;go_enter Tryz.func162,Tryz.ntmps162
 go_wp2_with fail
 refine(HK1.out _).mono ?_;rintro x1 w1 ⟨rfl,rfl⟩;go_wp2_with fail
 refine(HK2.out _).mono ?_;rintro x2 w2 ⟨rfl,rfl⟩;go_wp2_with fail
 refine(HT3.out _).mono ?_;rintro x3 w3 ⟨rfl,rfl⟩;go_wp2_with fail
 refine EW (cG Tryz.results162 _ _ _ _ rfl (E7 _ _ _ _ _ _ _ (af.new w #[.string ⟨#[]⟩,.string ⟨#[]⟩] 191) Tryz.underlying191 rfl (by kernel_rfl))) rfl ?_;refine⟨⟨#[]⟩,⟨#[]⟩,⟨#[]⟩,?_,(fun m hm=>by rw[HP.out] at hm;cases hm),HB.out⟩;rw[HP.out];rfl
theorem sO (s:ByteArray) (hs:s.size<=1000000) (w:World) {r:List UInt8} (h:s.data.toList.drop (ag s.data.toList)=59 :: r) (ht:aU (r.drop (ag r))≠0) (hv:((r.drop (ag r)).drop (aU (r.drop (ag r)))).drop (ag ((r.drop (ag r)).drop (aU (r.drop (ag r)))))=[]):Calls Tryz.prog 162 #[.string s] w (iP s.data.toList w):=by
 have hpf:=jz h ht;have hve:=uf (Or.inl hv);rw[hve] at hpf;have HK1:=lH (bg s hs);have hk1:=aT s.data.toList;obtain⟨k1,hk1e⟩:∃k,k=ag s.data.toList:=⟨_,rfl⟩;rw[<-hk1e] at HK1 hk1 h;have hl:=bh (s:=s);obtain⟨S1,hS1,hz1,hsl1⟩:=av s k1 (by omega);obtain⟨z0,ix0,hd1⟩:=xr (s:=s) (hS1.trans h);have ix1:∀W:World,(Instr.index 9 (.string S1) (.int .i64 0)).run Tryz.prog W=.ok (.int .u8 59) W:=ix0;have e0:((S1.size:Int)==0)=false:=by rw[EJ];omega
 obtain⟨S2,hS2,hz2,hsl2'⟩:=av S1 1 (by omega);have hsl2:∀W:World,(Instr.slice 9 (.string S1) (some (.int .i64 1)) none none).run Tryz.prog W=.ok (.string S2) W:=hsl2';have hr:S2.data.toList=r:=by rw[hS2,hd1];rfl
 have HK2:=lH (bg S2 (by omega));have hk2:=aT S2.data.toList;rw[hr] at HK2 hk2;have hl2:=bh (s:=S2);rw[hr] at hl2;obtain⟨k2,hk2e⟩:∃k,k=ag r:=⟨_,rfl⟩;rw[<-hk2e] at HK2 hk2 ht;obtain⟨S3,hS3,hz3,hsl3⟩:=av S2 k2 (by omega);rw[hr] at hS3;have HT3:=lH (ck S3 (by omega));rw[hS3] at HT3;obtain⟨t,hte⟩:∃k,k=aU (r.drop k2):=⟨_,rfl⟩;rw[<-hte] at HT3 ht;rw[<-hk1e,<-hk2e,<-hte] at hpf;rw[<-hk2e,<-hte] at hv;have htl:=ep (r.drop k2);rw[<-hte,ES] at htl;have et:((t:Int)==0)=false:=by rw[EJ];omega
 obtain⟨NM,hNM,hzN,hsl4⟩:=gw S3 t (by omega);have HLW:=lH (dJ NM (by omega));obtain⟨nm,hnm⟩:∃x,x=br NM:=⟨_,rfl⟩;rw[<-hnm] at HLW;obtain⟨S4,hS4,hz4,hsl5⟩:=av S3 t (by omega);rw[hS3] at hS4;have HK4:=lH (bg S4 (by omega));have hk4:=aT S4.data.toList;rw[hS4] at HK4 hk4;have hl4:=bh (s:=S4);rw[hS4] at hl4;obtain⟨l4,hl4e⟩:∃l,l=(r.drop k2).drop t:=⟨_,rfl⟩;rw[<-hl4e] at HK4 hk4 hl4 hS4 hv;try rw[<-hl4e] at hpf
 obtain⟨k4,hk4e⟩:∃k,k=ag l4:=⟨_,rfl⟩;rw[<-hk4e] at HK4 hk4 hv
 have HR:Hid (S4.data.toList=s.data.toList.drop (k1+1+k2+t)):=by
  show _=_;rw[hS4,hl4e,<-hr,hS2,hS1,Fb,Fb,Fb];congr 1
  omega
 have HP:Hid (cV s.data.toList=some (k1+1+k2+t)):=by show _=_;rw[hpf];rfl
 have e4:((k4:Int)==(S4.size:Int))=true:=by
  have:=FH List.length hv;rw[ES,F5] at this;rw[FA];omega
 have KB:=lH (af.new w #[.string ⟨#[]⟩,.string ⟨#[]⟩] 191);have HB:=lH ((EK w.heap.size w).alloc (nR _) (.cells #[.string ⟨#[]⟩,.string ⟨#[]⟩] 191));clear h ht hk1 hk1e hl hS1 hz1 z0 ix0 hd1 hS2 hz2 hsl2' hr hk2 hl2 hk2e hS3 hz3 hte htl hNM hzN hnm hS4 hz4 hk4 hl4 hl4e hk4e hv hpf hve;go_enter Tryz.func162,Tryz.ntmps162
 go_wp2_with fail
 refine(HK1.out _).mono ?_;rintro x1 w1 ⟨rfl,rfl⟩;go_wp2_with fail
 refine(HK2.out _).mono ?_;rintro x2 w2 ⟨rfl,rfl⟩;go_wp2_with fail
 refine(HT3.out _).mono ?_;rintro x3 w3 ⟨rfl,rfl⟩;go_wp2_with fail
 refine(HLW.out _).mono ?_;rintro x4 w4 ⟨rfl,hb⟩;have HB4:=lH (HB.out.trans (hb.mono HB.out.size));have K4:=lH (KB.out.call hb);have HNE:=lH (lv hb);clear hb;go_wp2_with fail
 refine(HK4.out _).mono ?_;rintro x5 w5 ⟨rfl,rfl⟩;have K5:=lH (K4.out.alloc (.cells #[.string nm,.string ⟨#[]⟩] 191));obtain⟨q0,q1⟩:=wF K5.out 0 1;obtain⟨q2,q3⟩:=xl K5.out 0 1;simp at q0 q1 q2 q3;go_wp2_with fail
 refine EW (cG Tryz.results162 _ _ _ _ rfl (E7 _ _ _ _ _ _ _ (cC (K4.out.alloc (.cells #[.string nm,.string ⟨#[]⟩] 191)) (.string nm) (.string ⟨#[]⟩)) Tryz.underlying191 rfl (by kernel_rfl))) rfl ?_;refine⟨nm,⟨#[]⟩,S4,?_,(fun m hm=>by rw[HP.out] at hm;cases hm;exact HR.out),((HB4.out.alloc HB4.out.size _).setCell (nR _) _).setCell (nR _) _⟩;rw[HP.out];rfl
theorem tI (s:ByteArray) (hs:s.size<=1000000) (w:World) {r:List UInt8} (h:s.data.toList.drop (ag s.data.toList)=59 :: r) (ht:aU (r.drop (ag r))≠0) {c:UInt8} {r':List UInt8} (hc:c≠61) (hv:((r.drop (ag r)).drop (aU (r.drop (ag r)))).drop (ag ((r.drop (ag r)).drop (aU (r.drop (ag r)))))=c :: r'):Calls Tryz.prog 162 #[.string s] w (iP s.data.toList w):=by
 have hpf:=jz h ht;have hve:=uf (Or.inr ⟨_,_,hv,hc⟩);rw[hve] at hpf;have HK1:=lH (bg s hs);have hk1:=aT s.data.toList;obtain⟨k1,hk1e⟩:∃k,k=ag s.data.toList:=⟨_,rfl⟩;rw[<-hk1e] at HK1 hk1 h;have hl:=bh (s:=s);obtain⟨S1,hS1,hz1,hsl1⟩:=av s k1 (by omega);obtain⟨z0,ix0,hd1⟩:=xr (s:=s) (hS1.trans h);have ix1:∀W:World,(Instr.index 9 (.string S1) (.int .i64 0)).run Tryz.prog W=.ok (.int .u8 59) W:=ix0;have e0:((S1.size:Int)==0)=false:=by rw[EJ];omega
 obtain⟨S2,hS2,hz2,hsl2'⟩:=av S1 1 (by omega);have hsl2:∀W:World,(Instr.slice 9 (.string S1) (some (.int .i64 1)) none none).run Tryz.prog W=.ok (.string S2) W:=hsl2';have hr:S2.data.toList=r:=by rw[hS2,hd1];rfl
 have HK2:=lH (bg S2 (by omega));have hk2:=aT S2.data.toList;rw[hr] at HK2 hk2;have hl2:=bh (s:=S2);rw[hr] at hl2;obtain⟨k2,hk2e⟩:∃k,k=ag r:=⟨_,rfl⟩;rw[<-hk2e] at HK2 hk2 ht;obtain⟨S3,hS3,hz3,hsl3⟩:=av S2 k2 (by omega);rw[hr] at hS3;have HT3:=lH (ck S3 (by omega));rw[hS3] at HT3;obtain⟨t,hte⟩:∃k,k=aU (r.drop k2):=⟨_,rfl⟩;rw[<-hte] at HT3 ht;rw[<-hk1e,<-hk2e,<-hte] at hpf;rw[<-hk2e,<-hte] at hv;have htl:=ep (r.drop k2);rw[<-hte,ES] at htl;have et:((t:Int)==0)=false:=by rw[EJ];omega
 obtain⟨NM,hNM,hzN,hsl4⟩:=gw S3 t (by omega);have HLW:=lH (dJ NM (by omega));obtain⟨nm,hnm⟩:∃x,x=br NM:=⟨_,rfl⟩;rw[<-hnm] at HLW;obtain⟨S4,hS4,hz4,hsl5⟩:=av S3 t (by omega);rw[hS3] at hS4;have HK4:=lH (bg S4 (by omega));have hk4:=aT S4.data.toList;rw[hS4] at HK4 hk4;have hl4:=bh (s:=S4);rw[hS4] at hl4;obtain⟨l4,hl4e⟩:∃l,l=(r.drop k2).drop t:=⟨_,rfl⟩;rw[<-hl4e] at HK4 hk4 hl4 hS4 hv;try rw[<-hl4e] at hpf
 obtain⟨k4,hk4e⟩:∃k,k=ag l4:=⟨_,rfl⟩;rw[<-hk4e] at HK4 hk4 hv
 have HR:Hid (S4.data.toList=s.data.toList.drop (k1+1+k2+t)):=by
  show _=_;rw[hS4,hl4e,<-hr,hS2,hS1,Fb,Fb,Fb];congr 1
  omega
 have HP:Hid (cV s.data.toList=some (k1+1+k2+t)):=by show _=_;rw[hpf];rfl
 have hk4l:k4<S4.size:=by
  have:=FH List.length hv;rw[ES,EQ] at this;omega
 have e4:((k4:Int)==(S4.size:Int))=false:=by rw[EJ];omega
 have ix4:=aj S4 k4 hk4l;obtain⟨c',hc',hd'⟩:=aL S4 k4 hk4l;rw[hS4,hv] at hd';have hcc:c=c':=by injection hd'
 rw[hc',<-hcc] at ix4;obtain⟨e5,e6⟩:=DX (n:=61) (by decide) hc;obtain⟨x,hx⟩:∃x:Int,x=(c.toNat:Int):=⟨_,rfl⟩;rw[<-hx] at ix4 e5 e6;clear hx hcc hc' hd' hc;have KB:=lH (af.new w #[.string ⟨#[]⟩,.string ⟨#[]⟩] 191);have HB:=lH ((EK w.heap.size w).alloc (nR _) (.cells #[.string ⟨#[]⟩,.string ⟨#[]⟩] 191));clear h ht hk1 hk1e hl hS1 hz1 z0 ix0 hd1 hS2 hz2 hsl2' hr hk2 hl2 hk2e hS3 hz3 hte htl hNM hzN hnm hS4 hz4 hk4 hl4 hl4e hk4e hv hpf hve;go_enter Tryz.func162,Tryz.ntmps162
 go_wp2_with fail
 refine(HK1.out _).mono ?_;rintro x1 w1 ⟨rfl,rfl⟩;go_wp2_with fail
 refine(HK2.out _).mono ?_;rintro x2 w2 ⟨rfl,rfl⟩;go_wp2_with fail
 refine(HT3.out _).mono ?_;rintro x3 w3 ⟨rfl,rfl⟩;go_wp2_with fail
 refine(HLW.out _).mono ?_;rintro x4 w4 ⟨rfl,hb⟩;have HB4:=lH (HB.out.trans (hb.mono HB.out.size));have K4:=lH (KB.out.call hb);have HNE:=lH (lv hb);clear hb;go_wp2_with fail
 refine(HK4.out _).mono ?_;rintro x5 w5 ⟨rfl,rfl⟩;have K5:=lH (K4.out.alloc (.cells #[.string nm,.string ⟨#[]⟩] 191));obtain⟨q0,q1⟩:=wF K5.out 0 1;obtain⟨q2,q3⟩:=xl K5.out 0 1;simp at q0 q1 q2 q3;go_wp2_with fail
 refine EW (cG Tryz.results162 _ _ _ _ rfl (E7 _ _ _ _ _ _ _ (cC (K4.out.alloc (.cells #[.string nm,.string ⟨#[]⟩] 191)) (.string nm) (.string ⟨#[]⟩)) Tryz.underlying191 rfl (by kernel_rfl))) rfl ?_;refine⟨nm,⟨#[]⟩,S4,?_,(fun m hm=>by rw[HP.out] at hm;cases hm;exact HR.out),((HB4.out.alloc HB4.out.size _).setCell (nR _) _).setCell (nR _) _⟩;rw[HP.out];rfl
theorem uS (s:ByteArray) (hs:s.size<=1000000) (w:World) {r:List UInt8} (h:s.data.toList.drop (ag s.data.toList)=59 :: r) (ht:aU (r.drop (ag r))≠0) {r':List UInt8} (hv:((r.drop (ag r)).drop (aU (r.drop (ag r)))).drop (ag ((r.drop (ag r)).drop (aU (r.drop (ag r)))))=61 :: r') (h6:0<aU (r'.drop (ag r'))):Calls Tryz.prog 162 #[.string s] w (iP s.data.toList w):=by
 have hpf:=jz h ht;have hve:=A7 hv h6;rw[hve] at hpf;have HK1:=lH (bg s hs);have hk1:=aT s.data.toList;obtain⟨k1,hk1e⟩:∃k,k=ag s.data.toList:=⟨_,rfl⟩;rw[<-hk1e] at HK1 hk1 h;have hl:=bh (s:=s);obtain⟨S1,hS1,hz1,hsl1⟩:=av s k1 (by omega);obtain⟨z0,ix0,hd1⟩:=xr (s:=s) (hS1.trans h);have ix1:∀W:World,(Instr.index 9 (.string S1) (.int .i64 0)).run Tryz.prog W=.ok (.int .u8 59) W:=ix0;have e0:((S1.size:Int)==0)=false:=by rw[EJ];omega
 obtain⟨S2,hS2,hz2,hsl2'⟩:=av S1 1 (by omega);have hsl2:∀W:World,(Instr.slice 9 (.string S1) (some (.int .i64 1)) none none).run Tryz.prog W=.ok (.string S2) W:=hsl2';have hr:S2.data.toList=r:=by rw[hS2,hd1];rfl
 have HK2:=lH (bg S2 (by omega));have hk2:=aT S2.data.toList;rw[hr] at HK2 hk2;have hl2:=bh (s:=S2);rw[hr] at hl2;obtain⟨k2,hk2e⟩:∃k,k=ag r:=⟨_,rfl⟩;rw[<-hk2e] at HK2 hk2 ht;obtain⟨S3,hS3,hz3,hsl3⟩:=av S2 k2 (by omega);rw[hr] at hS3;have HT3:=lH (ck S3 (by omega));rw[hS3] at HT3;obtain⟨t,hte⟩:∃k,k=aU (r.drop k2):=⟨_,rfl⟩;rw[<-hte] at HT3 ht;rw[<-hk1e,<-hk2e,<-hte] at hpf;rw[<-hk2e,<-hte] at hv;rw[<-hk2e,<-hte] at hve;have htl:=ep (r.drop k2);rw[<-hte,ES] at htl;have et:((t:Int)==0)=false:=by rw[EJ];omega
 obtain⟨NM,hNM,hzN,hsl4⟩:=gw S3 t (by omega);have HLW:=lH (dJ NM (by omega));obtain⟨nm,hnm⟩:∃x,x=br NM:=⟨_,rfl⟩;rw[<-hnm] at HLW;obtain⟨S4,hS4,hz4,hsl5⟩:=av S3 t (by omega);rw[hS3] at hS4;have HK4:=lH (bg S4 (by omega));have hk4:=aT S4.data.toList;rw[hS4] at HK4 hk4;have hl4:=bh (s:=S4);rw[hS4] at hl4;obtain⟨l4,hl4e⟩:∃l,l=(r.drop k2).drop t:=⟨_,rfl⟩;rw[<-hl4e] at HK4 hk4 hl4 hS4 hv;try rw[<-hl4e] at hpf
 obtain⟨k4,hk4e⟩:∃k,k=ag l4:=⟨_,rfl⟩;rw[<-hk4e] at HK4 hk4 hv
 have hk4l:k4<S4.size:=by
  have:=FH List.length hv;rw[ES,EQ] at this;omega
 have e4:((k4:Int)==(S4.size:Int))=false:=by rw[EJ];omega
 have k4b:(k4:Int)<=1000000:=by omega
 have ix4':=aj S4 k4 hk4l;obtain⟨c',hc',hd'⟩:=aL S4 k4 hk4l;rw[hS4,hv] at hd';have hcc:(61:UInt8)=c':=by injection hd'
 rw[hc',<-hcc] at ix4';have ix4:∀W:World,(Instr.index 9 (.string S4) (.int .i64 (k4:Int))).run Tryz.prog W=.ok (.int .u8 61) W:=ix4';obtain⟨S5,hS5,hz5,hsl6'⟩:=av S4 (k4+1) (by omega)
 have hsl6:∀W:World,(Instr.slice 9 (.string S4) (some (.int .i64 ((k4:Int)+1))) none none).run Tryz.prog W=.ok (.string S5) W:=fun W=>by
  have h:=hsl6' W;rw[show ((k4+1:Nat):Int)=(k4:Int)+1 by omega] at h;exact h
 have hS5r:S5.data.toList=r':=by rw[hS5,hS4];exact(fh hv).symm
 have HK5:=lH (bg S5 (by omega));have hk5:=aT S5.data.toList;rw[hS5r] at HK5 hk5;have hl5:=bh (s:=S5);rw[hS5r] at hl5;obtain⟨k5,hk5e⟩:∃k,k=ag r':=⟨_,rfl⟩;rw[<-hk5e] at HK5 hk5 h6;obtain⟨S6,hS6,hz6,hsl7⟩:=av S5 k5 (by omega);rw[hS5r] at hS6;have HT6:=lH (ck S6 (by omega));have hl6:=bh (s:=S6);rw[hS6] at HT6 hl6;obtain⟨t6,ht6e⟩:∃k,k=aU (r'.drop k5):=⟨_,rfl⟩;have ht6l:=ep (r'.drop k5);rw[<-ht6e] at HT6 h6 ht6l;obtain⟨VV,hVV,hzV,hsl8⟩:=gw S6 t6 (by omega);rw[<-hk5e,<-ht6e,<-hk4e] at hpf;have HP:Hid (cV s.data.toList=some (k1+1+k2+t+(k4+1+k5+t6))):=by show _=_;rw[hpf];rfl
 have HR6:Hid (∀n,n<=S6.size->S6.data.toList.drop n=s.data.toList.drop (k1+1+k2+t+(k4+1+k5+n))):=fun n hn=>by
  rw[hS6,<-hS5r,hS5,hS4,hl4e,<-hr,hS2,hS1,Fb,Fb,Fb,Fb,Fb,Fb];congr 1
  omega
 obtain⟨S7,hS7,hz7,hsl9⟩:=av S6 t6 (by omega);have HR:Hid (S7.data.toList=s.data.toList.drop (k1+1+k2+t+(k4+1+k5+t6))):=by show _=_;rw[hS7];exact HR6.out t6 (by omega)
 have e6:((t6:Int)==0)=false:=by rw[EJ];omega
 have e7:decide ((0:Int)<(t6:Int))=true:=dT (by omega);have e8:decide (0<t6)=true:=dT h6;have KB:=lH (af.new w #[.string ⟨#[]⟩,.string ⟨#[]⟩] 191);have HB:=lH ((EK w.heap.size w).alloc (nR _) (.cells #[.string ⟨#[]⟩,.string ⟨#[]⟩] 191));clear h ht hk1 hk1e hl hS1 hz1 z0 ix0 hd1 hS2 hz2 hsl2' hr hk2 hl2 hk2e hS3 hz3 hte htl hNM hzN hnm hS4 hz4 hk4 hl4 hl4e hk4e hv hpf hve hk4l ix4' hc' hd' hcc hS5 hz5 hsl6' hS5r hk5 hl5 hk5e hS6 hz6 hl6 ht6l hVV hzV hS7 hz7 h6 ht6e HR6;go_enter Tryz.func162,Tryz.ntmps162
 go_wp2_with fail
 refine(HK1.out _).mono ?_;rintro x1 w1 ⟨rfl,rfl⟩;go_wp2_with fail
 refine(HK2.out _).mono ?_;rintro x2 w2 ⟨rfl,rfl⟩;go_wp2_with fail
 refine(HT3.out _).mono ?_;rintro x3 w3 ⟨rfl,rfl⟩;go_wp2_with fail
 refine(HLW.out _).mono ?_;rintro x4 w4 ⟨rfl,hb⟩;have HB4:=lH (HB.out.trans (hb.mono HB.out.size));have K4:=lH (KB.out.call hb);have HNE:=lH (lv hb);clear hb;go_wp2_with fail
 refine(HK4.out _).mono ?_;rintro x5 w5 ⟨rfl,rfl⟩;go_wp2_with fail
 refine(HK5.out _).mono ?_;rintro x6 w6 ⟨rfl,rfl⟩;go_wp2_with fail
 refine(HT6.out _).mono ?_;rintro x7 w7 ⟨rfl,rfl⟩;have K5:=lH (K4.out.alloc (.cells #[.string nm,.string VV] 191));obtain⟨q0,q1⟩:=wF K5.out 0 1;obtain⟨q2,q3⟩:=xl K5.out 0 1;simp at q0 q1 q2 q3;go_wp2_with fail
 have KP:=lH (af.new w4 #[.string nm,.string VV] 191);refine bm (S:=RgS w w.heap.size w4.heap.size (.string nm) (.string VV)) (by kernel_rfl) ?_;rintro V0 hV0;have h0:RgS w w.heap.size w4.heap.size (.string nm) (.string VV) V0:=by rw[hV0];exact⟨KP.out,⟨_,_,K5.out⟩,(HB4.out.alloc HB4.out.size _).drew⟩
 clear hV0 q0 q1 q2 q3;refine EL (i:=0) (v:=Value.agg #[.string nm,.string VV]) rfl (by kernel_rfl) (by kernel_rfl) (by kernel_rfl) (fun _ _ _ h=>h) (Or.inl ⟨by kernel_rfl,?hy0⟩) h0 ?rest0
 case hy0=>
  intro w' hSw;obtain⟨a0,a1⟩:=xl hSw.1 0 1;simp at a0 a1;clear hSw;go_simp
 (try simp only[Act.put,lS,lZ,lC])
 refine EL (i:=1) (v:=Value.string S6) rfl (by kernel_rfl) (by kernel_rfl) (by kernel_rfl) (fun _ _ _ h=>h) (Or.inl ⟨by kernel_rfl,?hy1⟩) h0 ?rest1
 case hy1=>
  intro w' hSw;clear hSw;go_simp
 (try simp only[Act.put,lS,lZ,lC])
 refine EL (i:=2) (v:=(.int .i64 (t6:Int))) rfl (by kernel_rfl) (by kernel_rfl) (by kernel_rfl) (fun _ _ _ h=>h) (Or.inl ⟨by kernel_rfl,?hy2⟩) h0 ?rest2
 case hy2=>
  intro w' hSw;clear hSw;go_simp
 (try simp only[Act.put,lS,lZ,lC])
 refine EL (i:=3) (v:=Value.string S7) rfl (by kernel_rfl) (by kernel_rfl) (by kernel_rfl) (fun _ _ _ h=>h) (Or.inl ⟨by kernel_rfl,?hy3⟩) h0 ?rest3
 case hy3=>
  intro w' hSw;clear hSw;go_simp
 (try simp only[Act.put,lS,lZ,lC])
 refine EL (i:=4) (v:=(.int .i64 (t6:Int))) rfl (by kernel_rfl) (by kernel_rfl) (by kernel_rfl) (fun _ _ _ h=>h) (Or.inl ⟨by kernel_rfl,?hy4⟩) h0 ?rest4
 case hy4=>
  intro w' hSw;clear hSw;go_simp
 (try simp only[Act.put,lS,lZ,lC])
 refine EL (i:=5) (v:=(.bool true)) rfl (by kernel_rfl) (by kernel_rfl) (by kernel_rfl) (fun _ _ _ h=>h) (Or.inl ⟨by kernel_rfl,?hy5⟩) h0 ?rest5
 case hy5=>
  intro w' hSw;clear hSw;go_simp
 (try simp only[Act.put,lS,lZ,lC])
 refine Fe (rs:=[6]) (by kernel_rfl) (by simp) ?_;obtain⟨hP0,⟨ga,gb,hG0⟩,hB0⟩:=h0;obtain⟨a0,a1⟩:=xl hG0 0 1;obtain⟨f0,f1⟩:=wF hG0 0 1;simp at a0 a1;refine EZ rfl (fun K hK=>?_) E9;go_simp;clear a0 a1 f0 f1;obtain⟨V1,hV1⟩:∃V,V=(V0.setCell ⟨w.heap.size,0,none⟩ (.string nm)).setCell ⟨w.heap.size,1,none⟩ (.string VV):=⟨_,rfl⟩;rw[<-hV1];have hG1:af V1 w.heap.size #[.string nm,.string VV] 191:=by rw[hV1];exact cC hG0 _ _
 have hZ:RgS w w.heap.size w4.heap.size (.string nm) (.string VV) V1:=⟨by rw[hV1];exact(hP0.far (p:=⟨w.heap.size,0,none⟩) HNE.out _).far (p:=⟨w.heap.size,1,none⟩) HNE.out _,⟨_,_,hG1⟩,by rw[hV1];exact(hB0.setCell (nR _) _).setCell (nR _) _⟩;clear hV1 hP0 hG0 hB0;refine hK _ _ hZ (fun _=>?_);clear hK K;(try simp only[Act.put,lS,lZ,lC])
 refine Fe (rs:=[7]) (by kernel_rfl) (by simp) ?_;refine EZ rfl (fun K hK=>?_) E9;go_simp;refine hK _ _ hZ (fun _=>?_);clear hK K;(try simp only[Act.put,lS,lZ,lC])
 refine Fe (rs:=[8]) (by kernel_rfl) (by simp) ?_;refine EZ rfl (fun K hK=>?_) E9;go_simp;refine hK _ _ hZ (fun _=>?_);clear hK K;(try simp only[Act.put,lS,lZ,lC])
 refine wpAnyH_done (by kernel_rfl) ?_ _;go_wp2_with fail
 refine EW (cG Tryz.results162 _ _ _ _ rfl (E7 _ _ _ _ _ _ _ hG1 Tryz.underlying191 rfl (by kernel_rfl))) rfl ?_;refine⟨nm,VV,S7,?_,(fun m hm=>by rw[HP.out] at hm;cases hm;exact HR.out),hZ.2.2⟩;rw[HP.out];rfl
theorem vE (s:ByteArray) (hs:s.size<=1000000) (w:World) {r:List UInt8} (h:s.data.toList.drop (ag s.data.toList)=59 :: r) (ht:aU (r.drop (ag r))≠0) {r':List UInt8} (hv:((r.drop (ag r)).drop (aU (r.drop (ag r)))).drop (ag ((r.drop (ag r)).drop (aU (r.drop (ag r)))))=61 :: r') (h6:aU (r'.drop (ag r'))=0):Calls Tryz.prog 162 #[.string s] w (iP s.data.toList w):=by
 have hpf:=jz h ht;have hve:=Ac hv h6;rw[hve] at hpf;have HK1:=lH (bg s hs);have hk1:=aT s.data.toList;obtain⟨k1,hk1e⟩:∃k,k=ag s.data.toList:=⟨_,rfl⟩;rw[<-hk1e] at HK1 hk1 h;have hl:=bh (s:=s);obtain⟨S1,hS1,hz1,hsl1⟩:=av s k1 (by omega);obtain⟨z0,ix0,hd1⟩:=xr (s:=s) (hS1.trans h);have ix1:∀W:World,(Instr.index 9 (.string S1) (.int .i64 0)).run Tryz.prog W=.ok (.int .u8 59) W:=ix0;have e0:((S1.size:Int)==0)=false:=by rw[EJ];omega
 obtain⟨S2,hS2,hz2,hsl2'⟩:=av S1 1 (by omega);have hsl2:∀W:World,(Instr.slice 9 (.string S1) (some (.int .i64 1)) none none).run Tryz.prog W=.ok (.string S2) W:=hsl2';have hr:S2.data.toList=r:=by rw[hS2,hd1];rfl
 have HK2:=lH (bg S2 (by omega));have hk2:=aT S2.data.toList;rw[hr] at HK2 hk2;have hl2:=bh (s:=S2);rw[hr] at hl2;obtain⟨k2,hk2e⟩:∃k,k=ag r:=⟨_,rfl⟩;rw[<-hk2e] at HK2 hk2 ht;obtain⟨S3,hS3,hz3,hsl3⟩:=av S2 k2 (by omega);rw[hr] at hS3;have HT3:=lH (ck S3 (by omega));rw[hS3] at HT3;obtain⟨t,hte⟩:∃k,k=aU (r.drop k2):=⟨_,rfl⟩;rw[<-hte] at HT3 ht;rw[<-hk1e,<-hk2e,<-hte] at hpf;rw[<-hk2e,<-hte] at hv;rw[<-hk2e,<-hte] at hve;have htl:=ep (r.drop k2);rw[<-hte,ES] at htl;have et:((t:Int)==0)=false:=by rw[EJ];omega
 obtain⟨NM,hNM,hzN,hsl4⟩:=gw S3 t (by omega);have HLW:=lH (dJ NM (by omega));obtain⟨nm,hnm⟩:∃x,x=br NM:=⟨_,rfl⟩;rw[<-hnm] at HLW;obtain⟨S4,hS4,hz4,hsl5⟩:=av S3 t (by omega);rw[hS3] at hS4;have HK4:=lH (bg S4 (by omega));have hk4:=aT S4.data.toList;rw[hS4] at HK4 hk4;have hl4:=bh (s:=S4);rw[hS4] at hl4;obtain⟨l4,hl4e⟩:∃l,l=(r.drop k2).drop t:=⟨_,rfl⟩;rw[<-hl4e] at HK4 hk4 hl4 hS4 hv;try rw[<-hl4e] at hpf
 obtain⟨k4,hk4e⟩:∃k,k=ag l4:=⟨_,rfl⟩;rw[<-hk4e] at HK4 hk4 hv
 have hk4l:k4<S4.size:=by
  have:=FH List.length hv;rw[ES,EQ] at this;omega
 have e4:((k4:Int)==(S4.size:Int))=false:=by rw[EJ];omega
 have k4b:(k4:Int)<=1000000:=by omega
 have ix4':=aj S4 k4 hk4l;obtain⟨c',hc',hd'⟩:=aL S4 k4 hk4l;rw[hS4,hv] at hd';have hcc:(61:UInt8)=c':=by injection hd'
 rw[hc',<-hcc] at ix4';have ix4:∀W:World,(Instr.index 9 (.string S4) (.int .i64 (k4:Int))).run Tryz.prog W=.ok (.int .u8 61) W:=ix4';obtain⟨S5,hS5,hz5,hsl6'⟩:=av S4 (k4+1) (by omega)
 have hsl6:∀W:World,(Instr.slice 9 (.string S4) (some (.int .i64 ((k4:Int)+1))) none none).run Tryz.prog W=.ok (.string S5) W:=fun W=>by
  have h:=hsl6' W;rw[show ((k4+1:Nat):Int)=(k4:Int)+1 by omega] at h;exact h
 have hS5r:S5.data.toList=r':=by rw[hS5,hS4];exact(fh hv).symm
 have HK5:=lH (bg S5 (by omega));have hk5:=aT S5.data.toList;rw[hS5r] at HK5 hk5;have hl5:=bh (s:=S5);rw[hS5r] at hl5;obtain⟨k5,hk5e⟩:∃k,k=ag r':=⟨_,rfl⟩;rw[<-hk5e] at HK5 hk5 h6;obtain⟨S6,hS6,hz6,hsl7⟩:=av S5 k5 (by omega);rw[hS5r] at hS6;have HT6:=lH (ck S6 (by omega));have hl6:=bh (s:=S6);rw[hS6] at HT6 hl6;obtain⟨t6,ht6e⟩:∃k,k=aU (r'.drop k5):=⟨_,rfl⟩;have ht6l:=ep (r'.drop k5);rw[<-ht6e] at HT6 h6 ht6l;obtain⟨VV,hVV,hzV,hsl8⟩:=gw S6 t6 (by omega);rw[<-hk5e,<-hk4e] at hpf;obtain⟨Q,hQe⟩:∃Q,Q=pS (r'.drop k5):=⟨_,rfl⟩;rw[<-hQe] at hpf;have HQU:=lH (tG S6 (by omega) (Q:=Q) (by rw[hS6];exact hQe))
 have hql:Ek Q<=S6.size/\decide ((0:Int)<(Ek Q:Int))=Q.isSome/\decide (0<Ek Q)=Q.isSome:=by
  cases hq:Q with
  | none=>exact⟨EN _,rfl,rfl⟩
  | some p=>
    have h:=uB (hQe.symm.trans hq);have h1:Ek (some p)=p.1:=rfl;rw[h1];exact⟨by omega,dT (by omega),dT (by omega)⟩
 have HP:Hid (cV s.data.toList=Q.map (fun p=>k1+1+k2+t+(k4+1+k5+p.1))):=by show _=_;rw[hpf,GM];rfl
 have HR6:Hid (∀n,n<=S6.size->S6.data.toList.drop n=s.data.toList.drop (k1+1+k2+t+(k4+1+k5+n))):=fun n hn=>by
  rw[hS6,<-hS5r,hS5,hS4,hl4e,<-hr,hS2,hS1,Fb,Fb,Fb,Fb,Fb,Fb];congr 1
  omega
 obtain⟨q,hqe⟩:∃q,q=Ek Q:=⟨_,rfl⟩;obtain⟨QT,hqt⟩:∃q,q=quT Q:=⟨_,rfl⟩;obtain⟨B,hBe⟩:∃b,b=Q.isSome:=⟨_,rfl⟩;rw[<-hqe,<-hBe] at hql;rw[<-hqe,<-hqt] at HQU;obtain⟨hq1,e7,e8⟩:=hql;obtain⟨S7,hS7,hz7,hsl9⟩:=av S6 q (by omega)
 have HR:Hid (∀m,Q.map (fun p=>k1+1+k2+t+(k4+1+k5+p.1))=some m->S7.data.toList=s.data.toList.drop m):=fun m hm=>by
  cases hq:Q with
  | none=>rw[hq] at hm;cases hm
  | some p=>
    rw[hq] at hm;cases hm
    have h1:q=p.1:=by rw[hqe,hq];rfl
    show S7.data.toList=s.data.toList.drop (k1+1+k2+t+(k4+1+k5+p.1));rw[hS7,<-h1];exact HR6.out q hq1
 have HBE:Hid ((cV s.data.toList).isSome=B):=by show _=_;rw[HP.out,Option.isSome_map,<-hBe]
 have e6:((t6:Int)==0)=true:=by rw[FA];omega
 have KB:=lH (af.new w #[.string ⟨#[]⟩,.string ⟨#[]⟩] 191);have HB:=lH ((EK w.heap.size w).alloc (nR _) (.cells #[.string ⟨#[]⟩,.string ⟨#[]⟩] 191));clear h ht hk1 hk1e hl hS1 hz1 z0 ix0 hd1 hS2 hz2 hsl2' hr hk2 hl2 hk2e hS3 hz3 hte htl hNM hzN hnm hS4 hz4 hk4 hl4 hl4e hk4e hv hpf hve hk4l ix4' hc' hd' hcc hS5 hz5 hsl6' hS5r hk5 hl5 hk5e hS6 hz6 hl6 ht6l hVV hzV hS7 hz7 h6 ht6e HR6 hQe hqe hqt hBe hq1;go_enter Tryz.func162,Tryz.ntmps162
 go_wp2_with fail
 refine(HK1.out _).mono ?_;rintro x1 w1 ⟨rfl,rfl⟩;go_wp2_with fail
 refine(HK2.out _).mono ?_;rintro x2 w2 ⟨rfl,rfl⟩;go_wp2_with fail
 refine(HT3.out _).mono ?_;rintro x3 w3 ⟨rfl,rfl⟩;go_wp2_with fail
 refine(HLW.out _).mono ?_;rintro x4 w4 ⟨rfl,hb⟩;have HB4:=lH (HB.out.trans (hb.mono HB.out.size));have K4:=lH (KB.out.call hb);have HNE:=lH (lv hb);clear hb;go_wp2_with fail
 refine(HK4.out _).mono ?_;rintro x5 w5 ⟨rfl,rfl⟩;go_wp2_with fail
 refine(HK5.out _).mono ?_;rintro x6 w6 ⟨rfl,rfl⟩;go_wp2_with fail
 refine(HT6.out _).mono ?_;rintro x7 w7 ⟨rfl,rfl⟩;go_wp2_with fail
 refine(HQU.out _).mono ?_;rintro x8 w8 ⟨rfl,rfl⟩;have K5:=lH (K4.out.alloc (.cells #[.string nm,.string QT] 191));obtain⟨q0,q1⟩:=wF K5.out 0 1;obtain⟨q2,q3⟩:=xl K5.out 0 1;simp at q0 q1 q2 q3;go_wp2_with fail
 have KP:=lH (af.new w4 #[.string nm,.string QT] 191);refine bm (S:=RgS w w.heap.size w4.heap.size (.string nm) (.string QT)) (by kernel_rfl) ?_;rintro V0 hV0;have h0:RgS w w.heap.size w4.heap.size (.string nm) (.string QT) V0:=by rw[hV0];exact⟨KP.out,⟨_,_,K5.out⟩,(HB4.out.alloc HB4.out.size _).drew⟩
 clear hV0 q0 q1 q2 q3;refine EL (i:=0) (v:=Value.agg #[.string nm,.string QT]) rfl (by kernel_rfl) (by kernel_rfl) (by kernel_rfl) (fun _ _ _ h=>h) (Or.inl ⟨by kernel_rfl,?hy0⟩) h0 ?rest0
 case hy0=>
  intro w' hSw;obtain⟨a0,a1⟩:=xl hSw.1 0 1;simp at a0 a1;clear hSw;go_simp
 (try simp only[Act.put,lS,lZ,lC])
 refine EL (i:=1) (v:=Value.string S6) rfl (by kernel_rfl) (by kernel_rfl) (by kernel_rfl) (fun _ _ _ h=>h) (Or.inl ⟨by kernel_rfl,?hy1⟩) h0 ?rest1
 case hy1=>
  intro w' hSw;clear hSw;go_simp
 (try simp only[Act.put,lS,lZ,lC])
 refine EL (i:=2) (v:=(.int .i64 (q:Int))) rfl (by kernel_rfl) (by kernel_rfl) (by kernel_rfl) (fun _ _ _ h=>h) (Or.inl ⟨by kernel_rfl,?hy2⟩) h0 ?rest2
 case hy2=>
  intro w' hSw;clear hSw;go_simp
 (try simp only[Act.put,lS,lZ,lC])
 refine EL (i:=3) (v:=Value.string S7) rfl (by kernel_rfl) (by kernel_rfl) (by kernel_rfl) (fun _ _ _ h=>h) (Or.inl ⟨by kernel_rfl,?hy3⟩) h0 ?rest3
 case hy3=>
  intro w' hSw;clear hSw;go_simp
 (try simp only[Act.put,lS,lZ,lC])
 refine EL (i:=4) (v:=(.int .i64 (q:Int))) rfl (by kernel_rfl) (by kernel_rfl) (by kernel_rfl) (fun _ _ _ h=>h) (Or.inl ⟨by kernel_rfl,?hy4⟩) h0 ?rest4
 case hy4=>
  intro w' hSw;clear hSw;go_simp
 (try simp only[Act.put,lS,lZ,lC])
 refine EL (i:=5) (v:=(.bool B)) rfl (by kernel_rfl) (by kernel_rfl) (by kernel_rfl) (fun _ _ _ h=>h) (Or.inl ⟨by kernel_rfl,?hy5⟩) h0 ?rest5
 case hy5=>
  intro w' hSw;clear hSw;go_simp
 (try simp only[Act.put,lS,lZ,lC])
 refine Fe (rs:=[6]) (by kernel_rfl) (by simp) ?_;obtain⟨hP0,⟨ga,gb,hG0⟩,hB0⟩:=h0;obtain⟨a0,a1⟩:=xl hG0 0 1;obtain⟨f0,f1⟩:=wF hG0 0 1;simp at a0 a1;refine EZ rfl (fun K hK=>?_) E9;go_simp;clear a0 a1 f0 f1;obtain⟨V1,hV1⟩:∃V,V=(V0.setCell ⟨w.heap.size,0,none⟩ (.string nm)).setCell ⟨w.heap.size,1,none⟩ (.string QT):=⟨_,rfl⟩;rw[<-hV1];have hG1:af V1 w.heap.size #[.string nm,.string QT] 191:=by rw[hV1];exact cC hG0 _ _
 have hZ:RgS w w.heap.size w4.heap.size (.string nm) (.string QT) V1:=⟨by rw[hV1];exact(hP0.far (p:=⟨w.heap.size,0,none⟩) HNE.out _).far (p:=⟨w.heap.size,1,none⟩) HNE.out _,⟨_,_,hG1⟩,by rw[hV1];exact(hB0.setCell (nR _) _).setCell (nR _) _⟩;clear hV1 hP0 hG0 hB0;refine hK _ _ hZ (fun _=>?_);clear hK K;(try simp only[Act.put,lS,lZ,lC])
 refine Fe (rs:=[7]) (by kernel_rfl) (by simp) ?_;refine EZ rfl (fun K hK=>?_) E9;go_simp;refine hK _ _ hZ (fun _=>?_);clear hK K;(try simp only[Act.put,lS,lZ,lC])
 refine Fe (rs:=[8]) (by kernel_rfl) (by simp) ?_;refine EZ rfl (fun K hK=>?_) E9;go_simp;refine hK _ _ hZ (fun _=>?_);clear hK K;(try simp only[Act.put,lS,lZ,lC])
 refine wpAnyH_done (by kernel_rfl) ?_ _;go_wp2_with fail
 refine EW (cG Tryz.results162 _ _ _ _ rfl (E7 _ _ _ _ _ _ _ hG1 Tryz.underlying191 rfl (by kernel_rfl))) rfl ?_;refine⟨nm,QT,S7,?_,(fun m hm=>HR.out m (by rw[<-HP.out];exact hm)),hZ.2.2⟩;rw[HBE.out];rfl
theorem nJ (s:ByteArray) (hs:s.size<=1000000) (w:World):Calls Tryz.prog 162 #[.string s] w (iP s.data.toList w):=by
 cases h:s.data.toList.drop (ag s.data.toList) with
 | nil=>exact sd s hs w h
 | cons b r=>
   by_cases hb:b=59
   ·subst hb
    by_cases ht:aU (r.drop (ag r))=0
    ·exact tA s hs w h ht
    ·cases h4:((r.drop (ag r)).drop (aU (r.drop (ag r)))).drop (ag ((r.drop (ag r)).drop (aU (r.drop (ag r))))) with
     | nil=>exact sO s hs w h ht h4
     | cons c r'=>
       by_cases hc:c=61
       ·subst hc
        by_cases h6:aU (r'.drop (ag r'))=0
        ·exact vE s hs w h ht h4 h6
        ·exact uS s hs w h ht h4 (by omega)
       ·exact tI s hs w h ht hc h4
   ·exact vN s hs w h hb
end Go.Proofs.YthjbodpeckebiaaGreatDoor
-- RfD
namespace Go.Proofs.YthjbodpeckebiaaGreatDoor
open Go.RowKit
def bhI (at_:Nat):Option Nat->Int
 | none=>-1
 | some n=>((at_+1+n:Nat):Int)
def xq:Sc:=⟨true,false,0⟩
def xD (d:Nat):Sc:=⟨false,false,d⟩
theorem ej {c:UInt8} {n:Nat} (hn:n<256):(c.toNat:Int)=n↔c=UInt8.ofNat n:=by
 constructor
 ·intro h
  exact Fg.1 (by rw[UInt8.toNat_ofNat_of_lt' (by simpa using hn)];omega)
 ·intro h
  rw[h,UInt8.toNat_ofNat_of_lt' (by simpa using hn)]
theorem D4:ie.see ((34:UInt8).toNat:Int)=xq:=by rfl
theorem Ey:ie.see ((40:UInt8).toNat:Int)=xD 1:=by rfl
theorem bq_34 (l:List UInt8):bC xq (34 :: l)=some 1:=by rw[bC,if_pos (by decide)]
theorem Ee:bC xq [92]=none:=by decide
theorem bq_92 (c:UInt8) (r:List UInt8):bC xq (92 :: c :: r)=(bC xq r).map (·+2):=by
 rw[bC,if_neg (by decide),bC,show (xq.see ((92:UInt8).toNat:Int))=⟨true,true,0⟩ from by rfl];have e:(⟨true,true,0⟩:Sc).see (c.toNat:Int)=xq:=rfl;rw[e,if_neg (by decide),GM];rfl
theorem bq_o {c:UInt8} (h1:c≠34) (h2:c≠92) (l:List UInt8):bC xq (c :: l)=(bC xq l).map (·+1):=by
 have e1:¬(c.toNat:Int)=92:=fun h=>h2 ((ej (n:=92) (by decide)).1 h);have e2:¬(c.toNat:Int)=34:=fun h=>h1 ((ej (n:=34) (by decide)).1 h)
 have e:xq.see (c.toNat:Int)=xq:=by
  unfold Sc.see xq;rw[if_neg (by decide),if_neg e1,if_pos rfl,dT e2]
 rw[bC,e,if_neg (by decide)]
theorem oz (x:Sc):bC x []=none:=by rw[bC]
theorem Eu {d:Nat} (hd:1<=d):bC (xD d) [92]=none:=by
 rw[bC,show (xD d).see ((92:UInt8).toNat:Int)=⟨false,true,d⟩ from by unfold Sc.see xD;simp;omega,if_neg (by unfold Sc.closed;simp),oz];rfl
theorem bd_92 {d:Nat} (hd:1<=d) (c:UInt8) (r:List UInt8):bC (xD d) (92 :: c :: r)=(bC (xD d) r).map (·+2):=by
 rw[bC,show (xD d).see ((92:UInt8).toNat:Int)=⟨false,true,d⟩ from by unfold Sc.see xD;simp;omega,if_neg (by unfold Sc.closed;simp),bC];have e:(⟨false,true,d⟩:Sc).see (c.toNat:Int)=xD d:=rfl;rw[e,if_neg (by unfold Sc.closed xD;simp;omega),GM];rfl
theorem bd_40 {d:Nat} (l:List UInt8):bC (xD d) (40 :: l)=(bC (xD (d+1)) l).map (·+1):=by
 rw[bC,show (xD d).see ((40:UInt8).toNat:Int)=xD (d+1) from by unfold Sc.see xD;simp,if_neg (by unfold Sc.closed xD;simp)]
theorem D3 {d:Nat} (hd:1<=d) (l:List UInt8):bC (xD d) (41 :: l)=if d=1 then some 1 else (bC (xD (d - 1)) l).map (·+1):=by
 rw[bC,show (xD d).see ((41:UInt8).toNat:Int)=xD (d - 1) from by unfold Sc.see xD;simp;omega];by_cases h:d=1
 ·rw[if_pos h,if_pos (by rw[h];decide)]
 ·rw[if_neg h,if_neg (by unfold Sc.closed xD;simp;omega)]
theorem bd_o {d:Nat} (hd:1<=d) {c:UInt8} (h1:c≠92) (h2:c≠40) (h3:c≠41) (l:List UInt8):bC (xD d) (c :: l)=(bC (xD d) l).map (·+1):=by
 have e1:¬(c.toNat:Int)=92:=fun h=>h1 ((ej (n:=92) (by decide)).1 h);have e2:¬(c.toNat:Int)=40:=fun h=>h2 ((ej (n:=40) (by decide)).1 h);have e3:¬(c.toNat:Int)=41:=fun h=>h3 ((ej (n:=41) (by decide)).1 h)
 have e:(xD d).see (c.toNat:Int)=xD d:=by
  unfold Sc.see xD;rw[if_neg (by simp),if_neg e1,if_neg (by simp),if_neg e2,if_pos (show 0<d from hd),if_neg e3]
 rw[bC,e,if_neg (by unfold Sc.closed xD;simp;omega)]
theorem jt {A B:Option Nat} {a b c:Nat} (h:A=(B.map (·+a)).map (·+b)) (hc:c=a+b):A=B.map (·+c):=by
 rw[h,GM,hc];congr 1
 funext x
 simp;omega
theorem yK (s:ByteArray) (hs:s.size<=1000000) (a:Nat) (ha:a<s.size) {r:List UInt8} (hd:s.data.toList.drop a=34 :: r) {A:Option Nat} (hA:A=bC xq r) (w:World):
 Calls Tryz.prog 160 #[.string s,.int .i64 (a:Int)] w fun e w'=>e=.returned (.int .i64 (bhI a A))/\w=w':=by
 have hsi:(s.size:Int)<=1000000:=by omega
 have hsl:s.data.toList.length=s.size:=by simp
 have hixa:=aj s a ha;obtain⟨c0,hc0,cN⟩:=aL s a ha;rw[hd] at cN
 have h34:bt s a=34:=by
  have:(34:UInt8)=c0:=by injection cN
  rw[hc0,<-this];rfl
 have hr:=fh hd;have HX:Hid (bt s a=34):=h34;rw[h34] at hixa;have HR:=lH hr;have HA:=lH hA;have HSL:=lH hsl;clear hc0 cN h34 hr hA hsl hd;go_enter Tryz.func160,Tryz.ntmps160
 go_wp2_with fail
 go_loop [6,7] (fun u6 u7=>∃k:Nat,a<=k/\k<=s.size+1/\u7=.int .i64 k/\u6=.int .i64 0/\(k=a\/(a<k/\A=(bC xq (s.data.toList.drop k)).map (·+(k - (a+1)))))) (fun _ u7=>s.size+2 - (intOf u7).toNat)
 case atStart=>exact⟨a,nR _,by omega,rfl,rfl,Or.inl rfl⟩
 case round=>
  obtain⟨k,hak,hk,rfl,rfl,hor⟩:=hrel;have HO:=lH hor;clear hor;by_cases hlt:k<s.size
  ·have hk1:decide ((k:Int)<(s.size:Int))=true:=dT (by omega)
   have hix:=aj s k hlt;obtain⟨c,hc,hdr⟩:=aL s k hlt;obtain⟨x,hx⟩:∃x,x=bt s k:=⟨_,rfl⟩;rw[<-hx] at hix hc;by_cases hka:k=a
   ·have hx34:x=34:=by rw[hx,hka];exact HX.out
    subst hx34;have d1:decide ((a:Int)<(k:Int))=false:=dF (by omega);have d1n:decide (a<k)=false:=dF (by omega)
    have HN:Hid (A=(bC xq (s.data.toList.drop (k+1))).map (·+(k+1 - (a+1)))):=by
     show A=_;rw[HA.out,HR.out,hka,Nat.sub_self];simp
    clear hx hc hdr hka;go_wp2_with fail
    go_round
    case rel=>exact⟨k+1,by omega,by omega,by go_num,rfl,Or.inr ⟨by omega,HN.out⟩⟩
    case measure=>simp[intOf];omega
   ·have hak2:a<k:=by omega
    have d1:decide ((a:Int)<(k:Int))=true:=dT (by omega);have d1n:decide (a<k)=true:=dT hak2
    have HQ:Hid (A=(bC xq (c :: s.data.toList.drop (k+1))).map (·+(k - (a+1)))):=by
     show A=_;rcases HO.out with h|⟨_,h⟩
     ·exact absurd h hka
     ·rw[h,hdr]
    clear hdr hka;by_cases h92:x=92
    ·have hc92:c=92:=(ej (n:=92) (by decide)).1 (by omega)
     subst h92;by_cases hend:k+1=s.size
     ·have HN:Hid (A=none):=by
       show A=_;rw[HQ.out,hc92,hend,E6 (by have:=HSL.out;omega),Ee];rfl
      clear hx hc hc92;go_wp2_with fail
      go_round
      case rel=>exact⟨k+2,by omega,by omega,by go_num,rfl,Or.inr ⟨by omega,by rw[HN.out,E6 (by have:=HSL.out;omega),oz];rfl⟩⟩
      case measure=>simp[intOf];omega
     ·obtain⟨e,he,hdr2⟩:=aL s (k+1) (by omega)
      have HN:Hid (A=(bC xq (s.data.toList.drop (k+2))).map (·+(k+2 - (a+1)))):=by
       show A=_;have h:=HQ.out;rw[hc92,hdr2,bq_92] at h;exact jt h (by omega)
      clear hx hc hc92 he hdr2;go_wp2_with fail
      go_round
      case rel=>exact⟨k+2,by omega,by omega,by go_num,rfl,Or.inr ⟨by omega,HN.out⟩⟩
      case measure=>simp[intOf];omega
    ·have x92:(x==92)=false:=by rw[EJ];exact h92
     by_cases h34:x=34
     ·have hc34:c=34:=(ej (n:=34) (by decide)).1 (by omega)
      subst h34
      have HN:Hid (A=some (1+(k - (a+1)))):=by
       show A=_;rw[HQ.out,hc34,bq_34];rfl
      clear hx hc hc34 h92;go_wp2_with fail
      go_ret;rw[HN.out];refine⟨?_,rfl⟩;show Ending.returned (.int .i64 ((k:Int)+1))=.returned (.int .i64 ((a+1+(1+(k - (a+1))):Nat):Int));rw[show ((a+1+(1+(k - (a+1))):Nat):Int)=(k:Int)+1 by omega]
     ·have x34:(x==34)=false:=by rw[EJ];exact h34
      have HN:Hid (A=(bC xq (s.data.toList.drop (k+1))).map (·+(k+1 - (a+1)))):=by
       show A=_;have h:=HQ.out;rw[bq_o (fun e=>h34 (by rw[hc,e];rfl)) (fun e=>h92 (by rw[hc,e];rfl))] at h;exact jt h (by omega)
      clear hx hc h92 h34;go_wp2_with fail
      go_round
      case rel=>exact⟨k+1,by omega,by omega,by go_num,rfl,Or.inr ⟨by omega,HN.out⟩⟩
      case measure=>simp[intOf];omega
  ·have hk1:decide ((k:Int)<(s.size:Int))=false:=dF (by omega)
   have HN:Hid (A=none):=by
    show A=_;rcases HO.out with h|⟨_,h⟩
    ·omega
    ·rw[h,E6 (by have:=HSL.out;omega),oz];rfl
   go_wp2_with fail
   go_ret;rw[HN.out];exact⟨rfl,rfl⟩
theorem yM (s:ByteArray) (hs:s.size<=1000000) (a:Nat) (ha:a<s.size) {r:List UInt8} (hd:s.data.toList.drop a=40 :: r) {A:Option Nat} (hA:A=bC (xD 1) r) (w:World):
 Calls Tryz.prog 160 #[.string s,.int .i64 (a:Int)] w fun e w'=>e=.returned (.int .i64 (bhI a A))/\w=w':=by
 have hsi:(s.size:Int)<=1000000:=by omega
 have hsl:s.data.toList.length=s.size:=by simp
 have hixa:=aj s a ha;obtain⟨c0,hc0,cN⟩:=aL s a ha;rw[hd] at cN
 have h40:bt s a=40:=by
  have:(40:UInt8)=c0:=by injection cN
  rw[hc0,<-this];rfl
 have hr:=fh hd;have HX:Hid (bt s a=40):=h40;rw[h40] at hixa;have HR:=lH hr;have HA:=lH hA;have HSL:=lH hsl;clear hc0 cN h40 hr hA hsl hd;go_enter Tryz.func160,Tryz.ntmps160
 go_wp2_with fail
 go_loop [6,7] (fun u6 u7=>∃k d:Nat,a<=k/\k<=s.size+1/\d<=k/\u7=.int .i64 k/\u6=.int .i64 d/\((k=a/\d=0)\/(a<k/\1<=d/\A=(bC (xD d) (s.data.toList.drop k)).map (·+(k - (a+1)))))) (fun _ u7=>s.size+2 - (intOf u7).toNat)
 case atStart=>exact⟨a,0,nR _,by omega,EN _,rfl,rfl,Or.inl ⟨rfl,rfl⟩⟩
 case round=>
  obtain⟨k,d,hak,hk,hdk,rfl,rfl,hor⟩:=hrel;have HO:=lH hor;clear hor;by_cases hlt:k<s.size
  ·have hk1:decide ((k:Int)<(s.size:Int))=true:=dT (by omega)
   have hix:=aj s k hlt;obtain⟨c,hc,hdr⟩:=aL s k hlt;obtain⟨x,hx⟩:∃x,x=bt s k:=⟨_,rfl⟩;rw[<-hx] at hix hc;by_cases hka:k=a
   ·have hx40:x=40:=by rw[hx,hka];exact HX.out
    subst hx40
    have cN:d=0:=by
     rcases HO.out with h|h
     ·exact h.2
     ·omega
    have HD0:=lH cN
    have HN:Hid (A=(bC (xD (d+1)) (s.data.toList.drop (k+1))).map (·+(k+1 - (a+1)))):=by
     show A=_;rw[HA.out,HR.out,hka,Nat.sub_self,cN];simp
    clear hx hc hdr hka cN;go_wp2_with fail
    go_round
    case rel=>exact⟨k+1,d+1,by omega,by omega,by omega,by go_num,by go_num,Or.inr ⟨by omega,by omega,HN.out⟩⟩
    case measure=>simp[intOf];omega
   ·have hak2:a<k:=by omega
    have hd1:1<=d:=by
     rcases HO.out with h|h
     ·exact absurd h.1 hka
     ·exact h.2.1
    have HQ:Hid (A=(bC (xD d) (c :: s.data.toList.drop (k+1))).map (·+(k - (a+1)))):=by
     show A=_;rcases HO.out with h|⟨_,_,h⟩
     ·exact absurd h.1 hka
     ·rw[h,hdr]
    clear hdr hka;by_cases h92:x=92
    ·have hc92:c=92:=(ej (n:=92) (by decide)).1 (by omega)
     subst h92;by_cases hend:k+1=s.size
     ·have HN:Hid (A=none):=by
       show A=_;rw[HQ.out,hc92,hend,E6 (by have:=HSL.out;omega),Eu hd1];rfl
      clear hx hc hc92;go_wp2_with fail
      go_round
      case rel=>exact⟨k+2,d,by omega,by omega,by omega,by go_num,rfl,Or.inr ⟨by omega,hd1,by rw[HN.out,E6 (by have:=HSL.out;omega),oz];rfl⟩⟩
      case measure=>simp[intOf];omega
     ·obtain⟨e,he,hdr2⟩:=aL s (k+1) (by omega)
      have HN:Hid (A=(bC (xD d) (s.data.toList.drop (k+2))).map (·+(k+2 - (a+1)))):=by
       show A=_;have h:=HQ.out;rw[hc92,hdr2,bd_92 hd1] at h;exact jt h (by omega)
      clear hx hc hc92 he hdr2;go_wp2_with fail
      go_round
      case rel=>exact⟨k+2,d,by omega,by omega,by omega,by go_num,rfl,Or.inr ⟨by omega,hd1,HN.out⟩⟩
      case measure=>simp[intOf];omega
    ·have x92:(x==92)=false:=by rw[EJ];exact h92
     by_cases h40:x=40
     ·have hc40:c=40:=(ej (n:=40) (by decide)).1 (by omega)
      subst h40
      have HN:Hid (A=(bC (xD (d+1)) (s.data.toList.drop (k+1))).map (·+(k+1 - (a+1)))):=by
       show A=_;have h:=HQ.out;rw[hc40,bd_40] at h;exact jt h (by omega)
      clear hx hc hc40 h92;go_wp2_with fail
      go_round
      case rel=>exact⟨k+1,d+1,by omega,by omega,by omega,by go_num,by go_num,Or.inr ⟨by omega,by omega,HN.out⟩⟩
      case measure=>simp[intOf];omega
     ·have x40:(x==40)=false:=by rw[EJ];exact h40
      by_cases h41:x=41
      ·have hc41:c=41:=(ej (n:=41) (by decide)).1 (by omega)
       subst h41;by_cases hd2:d=1
       ·have HN:Hid (A=some (1+(k - (a+1)))):=by
         show A=_;rw[HQ.out,hc41,D3 hd1,if_pos hd2];rfl
        have e1:((d:Int) - 1==0)=true:=by rw[FA];omega
        clear hx hc hc41 h92 h40;go_wp2_with fail
        go_ret;rw[HN.out];refine⟨?_,rfl⟩;show Ending.returned (.int .i64 ((k:Int)+1))=.returned (.int .i64 ((a+1+(1+(k - (a+1))):Nat):Int));rw[show ((a+1+(1+(k - (a+1))):Nat):Int)=(k:Int)+1 by omega]
       ·have HN:Hid (A=(bC (xD (d - 1)) (s.data.toList.drop (k+1))).map (·+(k+1 - (a+1)))):=by
         show A=_;have h:=HQ.out;rw[hc41,D3 hd1,if_neg hd2] at h;exact jt h (by omega)
        have e1:((d:Int) - 1==0)=false:=by rw[EJ];omega
        clear hx hc hc41 h92 h40;go_wp2_with fail
        go_round
        case rel=>exact⟨k+1,d - 1,by omega,by omega,by omega,by go_num,by rw[show ((d - 1:Nat):Int)=(d:Int) - 1 by omega],Or.inr ⟨by omega,by omega,HN.out⟩⟩
        case measure=>simp[intOf];omega
      ·have x41:(x==41)=false:=by rw[EJ];exact h41
       have HN:Hid (A=(bC (xD d) (s.data.toList.drop (k+1))).map (·+(k+1 - (a+1)))):=by
        show A=_;have h:=HQ.out;rw[bd_o hd1 (fun e=>h92 (by rw[hc,e];rfl)) (fun e=>h40 (by rw[hc,e];rfl)) (fun e=>h41 (by rw[hc,e];rfl))] at h;exact jt h (by omega)
       clear hx hc h92 h40 h41;go_wp2_with fail
       go_round
       case rel=>exact⟨k+1,d,by omega,by omega,by omega,by go_num,rfl,Or.inr ⟨by omega,hd1,HN.out⟩⟩
       case measure=>simp[intOf];omega
  ·have hk1:decide ((k:Int)<(s.size:Int))=false:=dF (by omega)
   have HN:Hid (A=none):=by
    show A=_;rcases HO.out with h|⟨_,_,h⟩
    ·omega
    ·rw[h,E6 (by have:=HSL.out;omega),oz];rfl
   go_wp2_with fail
   go_ret;rw[HN.out];exact⟨rfl,rfl⟩
end Go.Proofs.YthjbodpeckebiaaGreatDoor
-- RfE
namespace Go.Proofs.YthjbodpeckebiaaGreatDoor
open Go.RowKit
theorem Ce (a:List UInt8):lE a []=some [a]:=by rw[lE]
theorem BI {c:UInt8} (h:c=34\/c=40) (a t:List UInt8):lE a (c :: t)=match bC (ie.see c.toNat) t with|none=>none|some n=>lE (a++c :: t.take n) (t.drop n):=by
 rw[lE,if_pos h];cases bC (ie.see c.toNat) t<;>rfl
theorem xN (a t:List UInt8):lE a (44 :: t)=(lE [] t).map (a :: ·):=by rw[lE,if_neg (by decide),if_pos rfl]
theorem Dx {c:UInt8} (h1:c≠34) (h2:c≠40) (h3:c≠44) (a t:List UInt8):lE a (c :: t)=lE (a++[c]) t:=by rw[lE,if_neg (by rintro (h|h)<;>contradiction),if_neg h3]
def si (D:List ByteArray):List (List UInt8):=D.map (·.data.toList)
theorem oQ (D:List ByteArray) (x:ByteArray):si (D++[x])=si D++[x.data.toList]:=by unfold si;rw[Fo];rfl
theorem C9 {A:Option (List (List UInt8))} {B:Option (List (List UInt8))} {p:List (List UInt8)} {x:List UInt8} (h:A=(B.map (x :: ·)).map (p ++ ·)):A=B.map ((p++[x]) ++ ·):=by
 rw[h,GM];congr 1
 funext l
 simp
theorem sU (s:ByteArray) (hs:s.size<=1000000) (a:Nat) (ha:a<s.size) {c:UInt8} {r:List UInt8} (hc:c=34\/c=40) (hd:s.data.toList.drop a=c :: r) {A:Option Nat} (hA:A=bC (ie.see c.toNat) r) (w:World):
 Calls Tryz.prog 160 #[.string s,.int .i64 (a:Int)] w fun e w'=>e=.returned (.int .i64 (bhI a A))/\w=w':=by
 rcases hc with rfl|rfl
 ·exact yK s hs a ha hd (by rw[hA,D4]) w
 ·exact yM s hs a ha hd (by rw[hA,Ey]) w
theorem vy (D:List ByteArray) (k:Nat) (h:k<D.length):ci (si (D.take (k+1)))=ci (si (D.take k))++if (aX D[k]).toList.isEmpty=true then [] else [aX D[k]]:=by
 rw[E8 h,oQ,iq,pG]
theorem wq (s:ByteArray) (hs:s.size<=900000) (w:World):
 Calls Tryz.prog 132 #[.string s] w fun e w'=>∃v,e=.returned (.tuple #[v,.bool (cA s).isSome])/\ap w' w.heap.size v ((cA s).getD [])/\Below w.heap.size w w':=by
 have hsi:(s.size:Int)<=900000:=by omega
 have hsl:s.data.toList.length=s.size:=by simp
 have HSL:=lH hsl;have HSP:=lH (v8 s);have HO0:=lH (ap.empty w);have HB0:=lH ((EK w.heap.size w).alloc (nR _) (.cells #[] 9));obtain⟨R,hR⟩:∃R,R=lE [] s.data.toList:=⟨_,rfl⟩;rw[<-hR] at HSP;have HR:=lH hR;clear hsl hR;go_enter Tryz.func132,Tryz.ntmps132
 go_wp2_with fail
 go_loopw [4,5,6] (fun u4 u5 u6 wr=>∃(k f:Nat) (D:List ByteArray),f<=k/\k<=s.size/\D.length<=f/\(∀x∈D,x.size<=s.size)/\u5=.int .i64 f/\u6=.int .i64 k/\ap wr w.heap.size u4 D/\R=(lE (s.extract f k).data.toList (s.data.toList.drop k)).map (si D ++ ·)/\Below w.heap.size w wr) (fun _ _ u6 _=>s.size - (intOf u6).toNat)
 case atStart=>
  refine⟨0,0,[],nR _,EN _,nR _,(fun x hx=>by cases hx),rfl,rfl,HO0.out,?_,HB0.out⟩;rw[HR.out,Ff,gA];show _=(lE [] s.data.toList).map ([] ++ ·);simp
 case round=>
  obtain⟨k,f,D,hfk,hk,hDf,hDs,rfl,rfl,ho,hrr,hb⟩:=hrel;have HDS:=lH hDs;clear hDs;have HO:=lH ho;have HB:=lH hb;have HRR:=lH hrr;have HZ:=lH hb.size;have HDL:Hid (D.length<=1000000):=by show _<=_;omega
  have HDF:=lH hDf;clear ho hb hrr hDf;by_cases hlt:k<s.size
  ·have hk1:decide ((k:Int)<(s.size:Int))=true:=dT (by omega)
   have hix:=aj s k hlt;obtain⟨c,hc,hdr⟩:=aL s k hlt
   have hcg:c=s[k]'hlt:=by
    have:=aA s k hlt;apply Fg.1;omega
   obtain⟨x,hx⟩:∃x,x=bt s k:=⟨_,rfl⟩;rw[<-hx] at hix hc;have HQ:Hid (R=(lE (s.extract f k).data.toList (c :: s.data.toList.drop (k+1))).map (si D ++ ·)):=by show R=_;rw[HRR.out,hdr]
   have hES:=oN hfk hlt;rw[<-hcg] at hES;have HES:=lH hES;have HDR:=lH hdr;clear hcg hES hdr;by_cases hop:x=34\/x=40
   ·have hco:c=34\/c=40:=by
     rcases hop with h|h
     ·exact Or.inl ((ej (n:=34) (by decide)).1 (by omega))
     ·exact Or.inr ((ej (n:=40) (by decide)).1 (by omega))
    obtain⟨A,hA⟩:∃A,A=bC (ie.see c.toNat) (s.data.toList.drop (k+1)):=⟨_,rfl⟩;have HBH:=lH (sU s (by omega) k hlt hco HDR.out hA wr);have hq:=HQ.out;rw[BI hco,<-hA] at hq;cases A with
    | none=>
      have HN:Hid (cA s=none):=by
       show _=_;rw[HSP.out,hq];rfl
      have HBH2:Hid (Calls Tryz.prog 160 #[.string s,.int .i64 (k:Int)] wr fun e w'=>e=.returned (.int .i64 (-1))/\wr=w'):=HBH.out;clear hq hA hc hx hco HBH;rcases hop with rfl|rfl
      all_goals
       go_wp2_with (go_at_call 160;refine HBH2.out.mono ?_;rintro e' w' ⟨rfl,rfl⟩)
       go_ret2
       rw[HN.out];exact⟨_,rfl,ap.start _ _,HB.out⟩
    | some n=>
      have hn:=wH _ _ _ hA.symm;rw[ES] at hn;have hn2:k+1+n<=s.size:=by have:=HSL.out;omega
      have HN:Hid (R=(lE (s.extract f (k+1+n)).data.toList (s.data.toList.drop (k+1+n))).map (si D ++ ·)):=by
       show R=_
       have e1:(s.extract f (k+1+n)).data.toList=(s.extract f k).data.toList++c :: (s.data.toList.drop (k+1)).take n:=by
        rw[Lib.extract_data,Lib.extract_data,show k+1+n - f=(k - f)+(1+n) by omega,List.take_add,Fb,show f+(k - f)=k by omega,HDR.out,GI 1 n,Ft]
       have hq2:R=(lE ((s.extract f k).data.toList++c :: (s.data.toList.drop (k+1)).take n) ((s.data.toList.drop (k+1)).drop n)).map (si D ++ ·):=hq;rw[hq2,e1,Fb]
      have HBH2:Hid (Calls Tryz.prog 160 #[.string s,.int .i64 (k:Int)] wr fun e w'=>e=.returned (.int .i64 ((k+1+n:Nat):Int))/\wr=w'):=HBH.out;obtain⟨m,hm⟩:∃m,m=k+1+n:=⟨_,rfl⟩;rw[<-hm] at HN HBH2 hn2;have hkm:k<m:=by omega
      have d0:decide ((m:Int)<0)=false:=dF (by omega);clear hq hA hc hx hco hn hm HBH;rcases hop with rfl|rfl
      all_goals
       go_wp2_with (go_at_call 160;refine HBH2.out.mono ?_;rintro e' w' ⟨rfl,rfl⟩)
       go_roundw
       case rel=>exact⟨m,f,D,by omega,hn2,HDF.out,HDS.out,rfl,rfl,HO.out,HN.out,HB.out⟩
       case measure=>simp[intOf];omega
   ·have x34:(x==34)=false:=by rw[EJ];exact fun h=>hop (Or.inl h)
    have x40:(x==40)=false:=by rw[EJ];exact fun h=>hop (Or.inr h)
    have c34:c≠34:=fun e=>hop (Or.inl (by rw[hc,e];rfl));have c40:c≠40:=fun e=>hop (Or.inr (by rw[hc,e];rfl));by_cases h44:x=44
    ·have hc44:c=44:=(ej (n:=44) (by decide)).1 (by omega)
     subst h44;obtain⟨X,hX⟩:∃X,X=s.extract f k:=⟨_,rfl⟩
     have hslc:∀W:World,(Instr.slice 9 (.string s) (some (.int .i64 (f:Int))) (some (.int .i64 (k:Int))) none).run Tryz.prog W=.ok (.string X) W:=fun W=>by
      rw[run_slice_string W 9 s .i64 .i64 (f:Int) (k:Int) Tryz.underlying9 (by omega) (by omega) (by omega),EX,EX,hX]
     have HN:Hid (R=(lE (s.extract (k+1) (k+1)).data.toList (s.data.toList.drop (k+1))).map (si (D++[X]) ++ ·)):=by
      show R=_;have h:=HQ.out;rw[hc44,xN] at h;rw[gA,oQ,hX];exact C9 h
     have HDS2:Hid (∀x∈D++[X],x.size<=s.size):=fun x hx=>by
      rcases List.mem_append.1 hx with h|h
      ·exact HDS.out x h
      ·rw[Gw.1 h,hX];simp;try omega
     clear hc hx hc44 hop c34 c40 hX;go_wp2_with (at_builtin;refine aF rfl _ _ rfl rfl HO.out X rfl HDL.out HZ.out ?_;intro p4 c4 w4 ho4 _ hb4;have HO4:=lH ho4;have HB4:=lH (HB.out.trans hb4);clear ho4 hb4)
     go_roundw
     case rel=>exact⟨k+1,k+1,D++[X],nR _,hlt,by rw[EY];have:=HDF.out;simp;omega,HDS2.out,by go_num,by go_num,HO4.out,HN.out,HB4.out⟩
     case measure=>simp[intOf];omega
    ·have x44:(x==44)=false:=by rw[EJ];exact h44
     have HN:Hid (R=(lE (s.extract f (k+1)).data.toList (s.data.toList.drop (k+1))).map (si D ++ ·)):=by
      show R=_;rw[HQ.out,Dx c34 c40 (fun e=>h44 (by rw[hc,e];rfl)),HES.out]
     clear hc hx h44 hop c34 c40;go_wp2_with fail
     go_roundw
     case rel=>exact⟨k+1,f,D,by omega,hlt,HDF.out,HDS.out,rfl,by go_num,HO.out,HN.out,HB.out⟩
     case measure=>simp[intOf];omega
  ·have hk1:decide ((k:Int)<(s.size:Int))=false:=dF (by omega)
   obtain⟨X,hX⟩:∃X,X=s.extract f s.size:=⟨_,rfl⟩
   have hslc:∀W:World,(Instr.slice 9 (.string s) (some (.int .i64 (f:Int))) none none).run Tryz.prog W=.ok (.string X) W:=fun W=>by
    rw[FR W 9 s Tryz.underlying9 .i64 (f:Int) (by omega) (by omega),EX,hX]
   have HSN:Hid (cA s=some (ci (si (D++[X])))):=by
    show _=_;have hks:k=s.size:=by omega
    have h:=HRR.out;rw[hks,E6 (by have:=HSL.out;omega),Ce] at h;rw[HSP.out,h,oQ,hX];rfl
   have HDS2:Hid (∀x∈D++[X],x.size<=s.size):=fun x hx=>by
    rcases List.mem_append.1 hx with h|h
    ·exact HDS.out x h
    ·rw[Gw.1 h,hX];simp;try omega
   clear hX;go_wp2_with (at_builtin;refine aF rfl _ _ rfl rfl HO.out X rfl HDL.out HZ.out ?_;intro p4 c4 w4 ho4 _ hb4;have HO4:=lH ho4;have HB4:=lH (HB.out.trans hb4);clear ho4 hb4)
   obtain⟨D2,hD2⟩:∃D2,D2=D++[X]:=⟨_,rfl⟩;have hDl:D.length+1=D2.length:=by rw[hD2];simp
   obtain⟨n,hn⟩:∃n,n=D2.length:=⟨_,rfl⟩;rw[<-hD2] at HSN HO4 HDS2;rw[hDl,<-hn] at HO4 ⊢;have HN:=lH hn;have hn6:n<=1000001:=by have:=HDL.out;omega
   have HS4:=lH HO4.out.strs;have HE0:=lH (ap.empty w4);have HEB:=lH ((EK w4.heap.size w4).alloc (nR _) (.cells #[] 9));clear hDl hn hD2;go_wp2_with fail
   go_loopw [7,8] (fun u7 u8 wv=>∃k:Nat,k<=n/\u8=.int .i64 k/\ap wv w4.heap.size u7 (ci (si (D2.take k)))/\Below w4.heap.size w4 wv) (fun _ u8 _=>n - (intOf u8).toNat)
   case atStart=>exact⟨0,EN _,rfl,HE0.out,HEB.out⟩
   case round=>
    obtain⟨k,hk,rfl,ho,hb⟩:=hrel;have HOE:=lH ho;have HBE:=lH hb;have HZE:=lH hb.size;have HSE:=lH (HS4.out.below hb);clear ho hb;by_cases hlt:k<n
    ·have hk1:decide ((k:Int)<(n:Int))=true:=dT (by omega)
     obtain⟨p5,c5,hv5,hcell⟩:=HSE.out;injection hv5 with e1 e2 e3
     subst e1 e3;have hkD:k<D2.length:=by rw[<-HN.out];exact hlt
     obtain⟨b,off,hp,c0⟩:=hcell k hkD;subst hp;obtain⟨y,hy⟩:∃y,y=D2[k]'hkD:=⟨_,rfl⟩;rw[<-hy] at c0;have hys:y.size<=9223372036854775807:=by have:=HDS2.out y (by rw[hy];exact FT _);omega
     have HT:=lH (fun W=>gG y hys W);have HST:=vy D2 k hkD;rw[<-hy] at HST
     have HLE:Hid ((ci (si (D2.take k))).length<=1000000):=by
      show _<=_;have h1:=lB (si (D2.take k));have h2:(si (D2.take k)).length=k:=by unfold si;rw[F9,Ge];omega
      omega
     obtain⟨T,hT⟩:∃T,T=aX y:=⟨_,rfl⟩;rw[<-hT] at HST HT;have hk0:(0:Int)<=(k:Int):=by omega
     have hki:(k:Int)<(n:Int):=by omega
     cases hE:T.toList.isEmpty with
     | true=>
       rw[if_pos hE,Fp] at HST;have HSN2:=lH HST;clear HST hy hT hcell e2 hkD hys;go_wp2_with (go_at_call 158;refine(HT.out _).mono ?_;rintro e5 w5 ⟨rfl,rfl⟩)
       go_roundw
       case rel=>exact⟨k+1,hlt,by go_num,by rw[HSN2.out];exact HOE.out,HBE.out⟩
       case measure=>simp[intOf];omega
     | false=>
       rw[if_neg (by rw[hE];decide)] at HST;have HSN2:=lH HST;clear HST hy hT hcell e2 hkD hys
       go_wp2_with (first
        | (go_at_call 158;refine(HT.out _).mono ?_;rintro e5 w5 ⟨rfl,rfl⟩)
        | (at_builtin;refine aF rfl _ _ rfl rfl HOE.out T rfl HLE.out HZE.out ?_;intro p6 c6 w6 ho6 _ hb6;have HO6:=lH ho6;have HB6:=lH (HBE.out.trans hb6);clear ho6 hb6))
       go_roundw
       case rel=>exact⟨k+1,hlt,by go_num,by rw[HSN2.out];exact HO6.out,HB6.out⟩
       case measure=>simp[intOf];omega
    ·have hk1:decide ((k:Int)<(n:Int))=false:=dF (by omega)
     have hkn:k=n:=by omega
     have HF:Hid (ap wr w4.heap.size u7 (ci (si D2))):=by
      have h:=HOE.out;rw[hkn,HN.out,F8] at h;exact h
     clear hkn;go_wp2_with fail
     go_ret2
     rw[HSN.out];exact⟨_,rfl,HF.out.lower HB4.out.size,HB4.out.trans (HBE.out.mono HB4.out.size)⟩
end Go.Proofs.YthjbodpeckebiaaGreatDoor
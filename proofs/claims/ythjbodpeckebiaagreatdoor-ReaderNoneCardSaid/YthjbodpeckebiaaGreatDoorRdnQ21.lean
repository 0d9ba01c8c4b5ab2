/- Texts packed for one claim, 21 of 48: BdE BdF. -/
import Derived.Test.YthjbodpeckebiaaGreatDoorRdnQ20
import Derived.Laws.EntriesVeiled
import Derived.Test.YthjbodpeckebiaaGreatDoorRdnQ4
set_option maxRecDepth 100000
set_option maxHeartbeats 16000000
set_option linter.unusedSimpArgs false
set_option linter.unusedVariables false
-- BdE
namespace Go.Proofs.YthjbodpeckebiaaGreatDoor
open Go.RowKit
theorem cH (w:World) (n:Nat):Below w.heap.size w (w.drewN n):=⟨rfl,rfl,rfl,nR _,fun _ _=>rfl⟩
theorem td (v:Value) (W:World):(Instr.typeAssert (.iface 1 v) 20 115 true).run Tryz.prog W=.ok (.tuple #[.nilFunc,.bool false]) W:=by kernel_rfl
theorem tg (v:Value) (W:World):(Instr.typeAssert (.iface 1 v) 20 1 false).run Tryz.prog W=.ok v W:=by kernel_rfl
theorem as_cr (v:Value) (W:World):(Instr.typeAssert (.iface 115 v) 20 115 true).run Tryz.prog W=.ok (.tuple #[v,.bool true]) W:=by kernel_rfl
theorem jq (D:Nat) (c:Int) (ft:TypeId) (fv:Value) (w:World):Calls Tryz.prog 118 #[.pointer (some ⟨D,0,none⟩),.int .u8 c,.iface ft fv] w fun e w'=>∃v,e=.returned v/\bF w' D c (.iface ft fv) v/\Below w.heap.size w w':=by
 have hmf:∀(fn:Fn) (first cap:Array Value) (W:World),(Instr.makeFunc fn first cap).run Tryz.prog W=.ok (.func fn first cap) W:=fun _ _ _ _=>rfl;go_enter Tryz.func118,Tryz.ntmps118
 go_wp2_with fail
 go_ret;have hb:=(((tU w.heap.size w).alloc (nR _) (.cells #[.pointer (some ⟨D,0,none⟩)] 86)).alloc (by simp) (.cells #[.int .u8 c] 5)).alloc (by simp;omega) (.cells #[.iface ft fv] 20);exact⟨_,rfl,⟨w.heap.size+1,w.heap.size,w.heap.size+1+1,rfl,(ac.new' (w:=w.alloc _) (by simp)).alloc _,((ac.new w _ _).alloc _).alloc _,ac.new' (by simp)⟩,hb⟩
def begV (V:bh) (D g:Nat) (f:FuncId):bh:={ V with gl:=g,vl:=.slice none 0 0,vp:=.pointer (some ⟨g,0,none⟩),vn:=.func (.func f) #[.pointer (some ⟨D,0,none⟩)] #[] }
theorem sR {w:World} {D n0 g:Nat} {m:Lm} {s:am} {V:bh} (h:ah w D n0 m s V) (ho:s.opens=true) {n:Int} {md:Md} {f:FuncId} (hf:md=.size/\f=78\/md=.trailer/\f=96) (hg:ac w g ((eI n).row (.slice none 0 0)) 136) (h0:n0<=g):
 ah ((w.setCell ⟨D,8,none⟩ (.pointer (some ⟨g,0,none⟩))).setCell ⟨D,5,none⟩ (.func (.func f) #[.pointer (some ⟨D,0,none⟩)] #[])) D n0 m { s with ln:=eI n,md:=md } (begV V D g f):=by
 have T1:=aO w D 8 (.pointer (some ⟨g,0,none⟩));have T2:=aO (w.setCell ⟨D,8,none⟩ (.pointer (some ⟨g,0,none⟩))) D 5 (.func (.func f) #[.pointer (some ⟨D,0,none⟩)] #[]);have T:=T1.trans T2;have hgD:¬g=D:=fun e=>hg.ne h.k (by decide) e;have hlined:Md.lined md=true:=by rcases hf with ⟨rfl,_⟩|⟨rfl,_⟩<;>rfl
 refine⟨(h.k.set 8 _).set 5 _,h.d,ab h.o T (fun k hk e=>by obtain⟨_,cs,hb⟩:=aN h.o k hk;exact h.k.ne hb (by decide) e.symm),⟨ab h.r.a T (h.ofD.own h.r.a (by decide)),ab h.r.t T (h.ofD.own h.r.t (by decide)),fun _=>?_,fun _=>⟨rfl,h0,⟨hg.touch T hgD,cm.start _ _,Nat.lt_succ_self _,?_⟩⟩,fun e=>?_,⟨_,_,_,rfl⟩⟩⟩
 ·rcases hf with ⟨rfl,rfl⟩|⟨rfl,rfl⟩<;>rfl
 ·exact(hg.touch T hgD).lt
 ·have e1:(s.opens&&md.lined)=false:=e
  rw[ho,hlined] at e1;cases e1
theorem begF {w:World} {V:bh} {D:Nat} {f:FuncId} {j:Nat} (hj:j<w.heap.size) (e:fS D (begV V D w.heap.size f) j):fS D V j:=by
 rcases e with e|e|e|e|e
 ·exact Or.inl e
 ·exact Or.inr (Or.inl e)
 ·exact Or.inr (Or.inr (Or.inl e))
 ·have:j=w.heap.size:=e
  omega
 ·cases e
theorem qz (w:World) (D:Nat) (a b:Value):aa (fun j=>j=D) w ((w.setCell ⟨D,8,none⟩ a).setCell ⟨D,5,none⟩ b):=(aO w D 8 a).trans (aO _ D 5 b)
theorem mh {w:World} {D n0:Nat} {m:Lm} {s:am} {V:bh} (h:ah w D n0 m s V) (ho:s.opens=true) (hm0:0<=m.line) (hm1:m.line<=65536):
 Calls Tryz.prog 119 #[.pointer (some ⟨D,0,none⟩)] w fun x w'=>x=.returned (.tuple #[])/\∃V',ah w' D n0 m { s with ln:=eI m.line,md:=.size } V'/\ap w w' D V V':=by
 have hmf:∀(fn:Fn) (first cap:Array Value) (W:World),(Instr.makeFunc fn first cap).run Tryz.prog W=.ok (.func fn first cap) W:=fun _ _ _ _=>rfl;have hD:=h.k.lt;have y2:w.cell? ⟨D,2,none⟩=some (.int .i64 m.line):=h.k.cell 2;have H:=lH h;have HO:=lH ho;have HN:=lH (fun W=>ba m.line hm0 hm1 W);clear h ho hm0 hm1;go_enter Tryz.func119,Tryz.ntmps119
 go_wp2_with (go_at_call 68;refine(HN.out _).mono ?_;rintro e1 w1 ⟨rfl,h1⟩;have ka:ac w1 D (cy m s V) 117:=h1▸H.out.k.alloc _;obtain⟨z8,z5⟩:=bf2 ka 8 5;have y8:w1.cell? ⟨D,8,none⟩=some V.vp:=ka.cell 8;have y5:w1.cell? ⟨D,5,none⟩=some V.vn:=ka.cell 5;have HW:=lH h1;have KA:=lH ka;clear h1 ka)
 go_end0
 have hg:ac w1 w.heap.size ((eI m.line).row (.slice none 0 0)) 136:=HW.out▸ac.new w _ _;have B1:Below w.heap.size w w1:=HW.out▸(tU _ _).alloc (nR _) _;have hs1:w.heap.size+1<=w1.heap.size:=by rw[HW.out];simp
 have A1:=H.out.call B1;exact⟨rfl,_,sR A1 HO.out (Or.inl ⟨rfl,rfl⟩) hg H.out.size,⟨aA (aa.of_below B1) ((qz w1 D _ _).mono (Q:=fS D V) (fun _ _ e=>Or.inl e)) (fun _ _ h=>h),fun j hj e=>begF hj e⟩⟩
theorem ij (x:ByteArray) (hx:0<x.size) (c:UInt8) (n:Int) (hn:(c.toNat:Int)=n) {α:Type} (a b:α):(if x.data.toList.head? = some c then a else b)=if bt x 0=n then a else b:=by
 obtain⟨d,hd,hl⟩:=cz x 0 hx;rw[us] at hl;rw[hl,hd,<-hn];simp only[List.head?_cons,Option.some.injEq];by_cases e:d=c
 ·rw[if_pos e,if_pos (by rw[e])]
 ·rw[if_neg e,if_neg (fun h=>e (ut.1 (by omega)))]
theorem qD {w:World} {D n0:Nat} {m:Lm} {s:am} {V:bh} (h:ah w D n0 m s V) (hl:s.out.length<=1000000) (ho:s.opens=true) (hmd:s.md=.lf) (hm0:0<=m.line) (hm1:m.line<=65536) (x:ByteArray) (hx:0<x.size) (bc bd bt0:Nat) (kc:ac w bc #[.int .u8 10] 5) (kd:ac w bd #[.pointer (some ⟨D,0,none⟩)] 86) (kt:ac w bt0 #[.iface 1 (mj D)] 20):
 Calls Tryz.prog 154 #[.string x,.pointer (some ⟨bc,0,none⟩),.pointer (some ⟨bd,0,none⟩),.pointer (some ⟨bt0,0,none⟩)] w fun e w'=>e=.returned (.int .i64 (an m s x.data.toList).2)/\∃V',ah w' D n0 m (an m s x.data.toList).1 V'/\ap w w' D V V':=by
 have hix:∀W:World,(Instr.index 9 (.string x) (.int .i64 0)).run Tryz.prog W=.ok (.int .u8 (bt x 0)) W:=ar x 0 hx;have yc:w.cell? ⟨bc,0,none⟩=some (.int .u8 10):=kc.cell 0;have yd:w.cell? ⟨bd,0,none⟩=some (.pointer (some ⟨D,0,none⟩)):=kd.cell 0;have yt:w.cell? ⟨bt0,0,none⟩=some (.iface 1 (.func (.func 119) #[.pointer (some ⟨D,0,none⟩)] #[])):=kt.cell 0;have a1:=td (.func (.func 119) #[.pointer (some ⟨D,0,none⟩)] #[]);have a2:=tg (.func (.func 119) #[.pointer (some ⟨D,0,none⟩)] #[]);have HB:=lH (fun(W:World) (hW:ah W D n0 m s V)=>mh hW ho hm0 hm1);have HW:=lH (fun(W:World) (hW:ah W D n0 m s V)=>cJ hW hl 3 (by decide))
 have hst:an m s x.data.toList=if bt x 0=10 then ({ s with ln:=eI m.line,md:=.size },1) else (s.wrong 3,0):=by
  unfold an;rw[hmd,ij x hx 10 10 rfl]
 rw[hst];have H:=lH h;clear h hst ho hmd hm0 hm1 kc kd kt;by_cases hc:bt x 0=10
 ·rw[if_pos hc]
  have hc2:(bt x 0 != 10)=false:=by simp[hc]
  rw[hc] at hix;go_enter Tryz.func154,Tryz.ntmps154
  go_wp2_with fail
  go_quiet (fail)
  go_wp2_with (go_at_call 119;refine(HB.out _ (H.out.call (cH w _))).mono ?_;rintro e1 w1 ⟨rfl,V1,h1,g1⟩;have H1:=lH h1;have G1:=lH g1;clear h1 g1)
  go_ret;exact⟨rfl,V1,H1.out,(ap.of_below (cH w _)).trans G1.out⟩
 ·rw[if_neg hc]
  have hc2:(bt x 0 != 10)=true:=by simp[hc]
  have hc3:(bt x 0==10)=false:=by simp[hc]
  go_enter Tryz.func154,Tryz.ntmps154
  go_wp2_with fail
  go_quiet (fail)
  go_wp2_with (go_at_call 67;refine(HW.out _ (H.out.call (cH w _))).mono ?_;rintro e1 w1 ⟨rfl,vo,h1,g1⟩;have H1:=lH h1;have G1:=lH g1;clear h1 g1)
  go_ret;exact⟨rfl,_,H1.out,(ap.of_below (cH w _)).trans G1.out⟩
theorem qC {w:World} {D n0:Nat} {m:Lm} {s:am} {V:bh} (h:ah w D n0 m s V) (hl:s.out.length<=1000000) (ho:s.opens=true) (hmd:s.md=.cr) (x:ByteArray) (hx:0<x.size) (bc bd bt0:Nat) (f2:FuncId) (fa ca:Array Value) (hlf:ob w D (.func (.func f2) fa ca)) (kc:ac w bc #[.int .u8 13] 5) (kd:ac w bd #[.pointer (some ⟨D,0,none⟩)] 86) (kt:ac w bt0 #[.iface 115 (.func (.func f2) fa ca)] 20):
 Calls Tryz.prog 154 #[.string x,.pointer (some ⟨bc,0,none⟩),.pointer (some ⟨bd,0,none⟩),.pointer (some ⟨bt0,0,none⟩)] w fun e w'=>e=.returned (.int .i64 (an m s x.data.toList).2)/\∃V',ah w' D n0 m (an m s x.data.toList).1 V'/\ap w w' D V V':=by
 have hix:∀W:World,(Instr.index 9 (.string x) (.int .i64 0)).run Tryz.prog W=.ok (.int .u8 (bt x 0)) W:=ar x 0 hx;have yc:w.cell? ⟨bc,0,none⟩=some (.int .u8 13):=kc.cell 0;have yd:w.cell? ⟨bd,0,none⟩=some (.pointer (some ⟨D,0,none⟩)):=kd.cell 0;have yt:w.cell? ⟨bt0,0,none⟩=some (.iface 115 (.func (.func f2) fa ca)):=kt.cell 0;obtain⟨f0,a0,c0,hvn⟩:=h.r.f;have z5:w.frozen? ⟨D,5,none⟩=false:=h.k.froz 5;have y5:w.cell? ⟨D,5,none⟩=some (.func f0 a0 c0):=by rw[<-hvn];exact h.k.cell 5
 have a1:=as_cr (.func (.func f2) fa ca);have HW:=lH (fun(W:World) (hW:ah W D n0 m s V)=>cJ hW hl 3 (by decide))
 have hst:an m s x.data.toList=if bt x 0=13 then ({ s with md:=.lf },1) else (s.wrong 3,0):=by
  unfold an;rw[hmd,ij x hx 13 13 rfl]
 rw[hst];have hnl:s.lined=false:=by unfold am.lined;rw[hmd];exact Bool.and_false _
 have hu:=h.r.u hnl
 have HS:=lH (fun(W:World) (K:ah W D n0 m s V) (hlw:ob W D (.func (.func f2) fa ca))=>show ah (W.setCell ⟨D,5,none⟩ (.func (.func f2) fa ca)) D n0 m { s with md:=.lf } { V with vn:=.func (.func f2) fa ca }/\ap W (W.setCell ⟨D,5,none⟩ (.func (.func f2) fa ca)) D V { V with vn:=.func (.func f2) fa ca } from
  ⟨K.set 5 _ rfl rfl rfl rfl rfl rfl rfl (fun _=>bF.touch hlw (aO W D 5 _) K.ofD (by decide) (by decide) (by decide)) (fun e=>(by simp[am.lined,Md.lined] at e)) (fun _=>hu) ⟨_,_,_,rfl⟩,⟨(aO W D 5 _).mono (Q:=fS D V) (fun _ _ e=>Or.inl e),fun _ _ e=>e⟩⟩)
 have H:=lH h;have HL:=lH hlf;have HO:=lH ho;have HM:=lH hmd;clear h hst ho hmd kc kd kt hlf hvn hnl hu;by_cases hc:bt x 0=13
 ·rw[if_pos hc]
  have hc2:(bt x 0 != 13)=false:=by simp[hc]
  rw[hc] at hix;go_enter Tryz.func154,Tryz.ntmps154
  go_wp2_with fail
  go_quiet (fail)
  go_wp2_with fail
  go_ret;exact⟨rfl,_,(HS.out _ (H.out.call (cH w _)) HL.out).1,(ap.of_below (cH w _)).trans (HS.out _ (H.out.call (cH w _)) HL.out).2⟩
 ·rw[if_neg hc]
  have hc2:(bt x 0 != 13)=true:=by simp[hc]
  have hc3:(bt x 0==13)=false:=by simp[hc]
  go_enter Tryz.func154,Tryz.ntmps154
  go_wp2_with fail
  go_quiet (fail)
  go_wp2_with (go_at_call 67;refine(HW.out _ (H.out.call (cH w _))).mono ?_;rintro e1 w1 ⟨rfl,vo,h1,g1⟩;have H1:=lH h1;have G1:=lH g1;clear h1 g1)
  go_ret;exact⟨rfl,_,H1.out,(ap.of_below (cH w _)).trans G1.out⟩
end Go.Proofs.YthjbodpeckebiaaGreatDoor
-- BdF
namespace Go.Proofs.YthjbodpeckebiaaGreatDoor
open Go.RowKit
theorem og {w:World} {D n0:Nat} {m:Lm} {s:am} {V:bh} (h:ah w D n0 m s V) (hl:s.out.length<=999999) (hm:s.md=.data) (x:ByteArray) (hx:x.size<=1000000) (h0:0<=s.left) (h1:s.left<=9223372036854775807):
 Calls Tryz.prog 97 #[.pointer (some ⟨D,0,none⟩),.string x] w fun e w'=>e=.returned (.int .i64 (an m s x.data.toList).2)/\∃V',ah w' D n0 m (an m s x.data.toList).1 V'/\ap w w' D V V':=by
 obtain⟨R,hR⟩:∃R,R=s.some x.data.toList:=⟨_,rfl⟩
 have hb:an m s x.data.toList=(if R.1.left=0 then { R.1 with md:=.cr } else R.1,R.2):=by
  rw[hR];unfold an;rw[hm]
 have hmf:∀(fn:Fn) (first cap:Array Value) (W:World),(Instr.makeFunc fn first cap).run Tryz.prog W=.ok (.func fn first cap) W:=fun _ _ _ _=>rfl;have HC:=lH (jt h (by omega) x hx h0 h1);have hlo:R.1.out.length<=1000000:=by rw[hR,iQ];omega
 have hRm:R.1.md=.data:=by rw[hR];exact hm
 have hnl:R.1.lined=false:=by unfold am.lined;rw[hRm];exact Bool.and_false _
 rw[<-hR] at HC;rw[hb];clear h hl hm hb hR;by_cases hz:R.1.left=0
 ·rw[if_pos hz]
  have HS:=lH (fun(W:World) (V:bh) (K:ah W D n0 m R.1 V) (f:Value) (g:Value) (k1:bF W D 13 (.iface 115 g) f) (k2:ob W D g) (hf:Fun f)=>show ah (W.setCell ⟨D,5,none⟩ f) D n0 m { R.1 with md:=.cr } { V with vn:=f }/\ap W (W.setCell ⟨D,5,none⟩ f) D V { V with vn:=f } from
   ⟨K.set 5 _ rfl rfl rfl rfl rfl rfl rfl (fun _=>⟨g,bF.touch k1 (aO W D 5 _) K.ofD (by decide) (by decide) (by decide),bF.touch k2 (aO W D 5 _) K.ofD (by decide) (by decide) (by decide)⟩) (fun e=>(by simp[am.lined,Md.lined] at e)) (fun _=>K.r.u hnl) hf,⟨(aO W D 5 _).mono (Q:=fS D V) (fun _ _ e=>Or.inl e),fun _ _ e=>e⟩⟩)
  go_enter Tryz.func97,Tryz.ntmps97
  go_upto_region 3 with (go_at_call 93;refine HC.out.mono ?_;rintro e1 w1 ⟨rfl,vo,h1,g1⟩;have y7:w1.cell? ⟨D,7,none⟩=some (.int .i64 R.1.left):=h1.k.cell 7;rw[hz] at y7;have H1:=lH h1;have G1:=lH g1;clear h1 g1)
  go_wp2_with (first|(go_at_call 118;refine(jq D 10 1 (mj D) _).mono ?_;rintro e2 w2 ⟨v2,rfl,k2,b2⟩;obtain⟨c1,d1,t1,rfl,q1,q2,q3⟩:=k2;have K2:=lH (show ob w2 D _ from ⟨c1,d1,t1,rfl,q1,q2,q3⟩);have HB2:=lH b2;clear q1 q2 q3 b2)|(go_at_call 118;go_loud (refine(jq D 13 115 _ _).mono ?_;rintro e3 w3 ⟨v3,rfl,k3,b3⟩;obtain⟨c3,d3,t3,rfl,q1,q2,q3⟩:=k3;have K3:=lH (show bF w3 D 13 _ _ from ⟨c3,d3,t3,rfl,q1,q2,q3⟩);have A3:=lH ((H1.out.call HB2.out).call b3);have L3:=lH (bF.touch K2.out (P:=fun _=>False) (aa.of_below b3) (l:=[]) (fun _ h=>h.elim) (by simp) (by simp) (by simp));have HB3:=lH b3;obtain⟨f0,a0,c0,hvn⟩:=A3.out.r.f;have z5:=A3.out.k.froz 5;have y5:w3.cell? ⟨D,5,none⟩=some (.func f0 a0 c0):=(A3.out.k.cell 5).trans (uF some hvn);clear q1 q2 q3 b3 hvn)))
  go_ret;have hs:=HS.out _ _ A3.out _ _ K3.out L3.out ⟨_,_,_,rfl⟩;exact⟨rfl,_,hs.1,((G1.out.trans (ap.of_below HB2.out)).trans (ap.of_below HB3.out)).trans hs.2⟩
 ·rw[if_neg hz]
  have hz2:(R.1.left==0)=false:=by rw[tT];exact hz
  clear hz;go_enter Tryz.func97,Tryz.ntmps97
  go_wp2_with (go_at_call 93;refine HC.out.mono ?_;rintro e1 w1 ⟨rfl,vo,h1,g1⟩;have y7:w1.cell? ⟨D,7,none⟩=some (.int .i64 R.1.left):=h1.k.cell 7;have H1:=lH h1;have G1:=lH g1;clear h1 g1)
  go_ret;exact⟨rfl,_,H1.out,G1.out⟩
end Go.Proofs.YthjbodpeckebiaaGreatDoor
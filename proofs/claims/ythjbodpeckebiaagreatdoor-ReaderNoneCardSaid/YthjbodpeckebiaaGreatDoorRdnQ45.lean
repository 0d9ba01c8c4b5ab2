/- Texts packed for one claim, 45 of 48: Fram. -/
import Derived.Test.YthjbodpeckebiaaGreatDoorRdnQ6
import Derived.Test.YthjbodpeckebiaaGreatDoorRdnQ40
import Derived.Test.YthjbodpeckebiaaGreatDoorRdnQ41
import Derived.Test.YthjbodpeckebiaaGreatDoorRdnQ44
import Derived.Test.YthjbodpeckebiaaGreatDoorRdnQ7
set_option maxRecDepth 100000
set_option maxHeartbeats 16000000
set_option linter.unusedSimpArgs false
set_option linter.unusedVariables false
-- Fram
namespace Go.Proofs.YthjbodpeckebiaaGreatDoor
open Go.RowKit
structure gk (fs:List Fd):Prop where
 len:fs.length<=100000
 nam:∀g∈fs,g.1.size<=1000000
 val:∀g∈fs,g.2.size<=1000000
 te:(bB (aJ fs rE)).size<=900000
def nI:List ByteArray->Int->Bool
 | [],k=>decide (k<=0)
 | [s],_=>(fw s.data.toList).2.2==0
 | _ :: _ :: _,_=>false
theorem mB (fs:List Fd) (k:Int):ev fs k=nI (aJ fs sT) k:=by
 unfold ev;cases aJ fs sT with
 | nil=>rfl
 | cons s r=>cases r<;>rfl
theorem jd (s:ByteArray) (hs:s.size<=1000000) (w:World):Calls Tryz.prog 110 #[.string s] w fun e w'=>e=.returned (.bool ((fw s.data.toList).2.2==0))/\Below w.heap.size w w':=by
 have HP:=lH (oY s hs w);obtain⟨N,P,X,hR⟩:∃N P X,fw s.data.toList=(N,P,X):=⟨_,_,_,rfl⟩;rw[hR] at HP ⊢;clear hR hs;go_enter Tryz.func110,Tryz.ntmps110
 go_wp2_with (go_at_call 111;refine HP.out.mono ?_;rintro e1 w1 ⟨rfl,h1⟩)
 go_ret;exact⟨rfl,h1⟩
theorem mC (m t r:ByteArray) (k n:Int) (f:Value) (fs:List Fd) (w:World) (hf:bL w f fs) (ok:gk fs):
 Calls Tryz.prog 90 #[.agg #[.string m,.string t,.int .i64 k,.int .i64 n,.string r,f]] w fun e w'=>e=.returned (.bool (ev fs k))/\Below w.heap.size w w':=by
 have HA:=lH fun W [o:Ov w W]=>fu fs f sT W (hf.below o.b) (by have:=ok.len;omega) ok.nam (by decide)
 have hav:∀s∈aJ fs sT,s.size<=1000000:=by
  intro s hs;unfold aJ at hs;obtain⟨q,hq,rfl⟩:=List.mem_map.1 hs;exact ok.val q (List.mem_filter.1 hq).1
 have HP:Hid (ev fs k=nI (aJ fs sT) k):=mB fs k;generalize aJ fs sT=A at HA hav HP;unfold sT at HA;clear hf ok;rcases A with _|⟨s,_|⟨s2,rest⟩⟩
 all_goals
  try have HR:=lH (jd s (hav s (by simp)))
  try have hn1:0 < [s].length:=Nat.zero_lt_one
  try (
   have hL:∃L,L=(s :: s2 :: rest).length:=⟨_,rfl⟩;obtain⟨L,hL⟩:=hL;have l0:((L:Int)==0)=false:=by rw[tT];rw[hL,t4];omega
   have l1:((L:Int)==1)=false:=by rw[tT];rw[hL,t4,t4];omega
   replace hL:=lH hL)
  clear hav;go_enter Tryz.func90,Tryz.ntmps90
  go_wp2_with (first
   | (go_at_call 109;refine(HA.out _).mono ?_;rintro e1 w1 ⟨v1,rfl,ho,hb⟩;obtain⟨_,_,_,_,_⟩:=gP (w:=w) hb;clear hb;obtain⟨p1,c1,rfl,hc⟩:=ho.strs;clear ho;first|(rw[<-hL.out];clear hc)|(replace hc:=hc 0 hn1;obtain⟨b,off,rfl,hc⟩:=hc;simp at hc)|clear hc)
   | (go_at_call 110;refine(HR.out _).mono ?_;rintro e2 w2 ⟨rfl,hb⟩;obtain⟨_,_,_,_,_⟩:=gP (w:=w) hb;clear hb))
  go_ret;rw[HP.out];exact⟨rfl,Ov.of⟩
def nU (C:Bool) (ce q:Int) (has:Bool) (le cnt:Int) (k:Int):Int×Int×Int:=
 if (ce==0)=false then (0,0,ce) else if C=true then (if decide (k<=0)=true then (0,0,14) else if decide (0<cnt)=true then (0,0,14) else if (le==0)=false then (0,0,le) else (2,0,0)) else if (le==0)=false then (0,0,le) else if has=true then (1,q,0) else (3,0,0)
theorem rr (fs:List Fd) (k:Int):bX fs k=nU (fV fs).1 (fV fs).2 ((dS fs).elim 0 (max · 0)) ((dS fs).elim false (fun r=>decide (0<=r))) ((dS fs).elim (14:Int) (fun _=>0)) ((aJ fs qg).length:Int) k:=by
 unfold bX nU;cases aJ fs qg<;>cases dS fs<;>simp only[Option.elim]<;>(repeat' split)<;>simp_all<;>omega
theorem lV (m t r:ByteArray) (k n:Int) (f:Value) (fs:List Fd) (w:World) (hf:bL w f fs) (ok:gk fs):
 Calls Tryz.prog 91 #[.agg #[.string m,.string t,.int .i64 k,.int .i64 n,.string r,f]] w fun e w'=>e=.returned (.tuple #[.agg #[.int .i64 (bX fs k).1,.int .i64 (bX fs k).2.1],.int .i64 (bX fs k).2.2])/\Below w.heap.size w w':=by
 have HC:=lH fun W [o:Ov w W]=>kU fs f W (hf.below o.b) ok.len ok.nam ok.val ok.te;have HO:=lH fun W [o:Ov w W]=>o5 fs f W (hf.below o.b) (by have:=ok.len;omega) ok.nam ok.val;have HN:=lH fun W [o:Ov w W]=>mz fs f qg W (hf.below o.b) (by have:=ok.len;omega) ok.nam (by decide);rw[rr];generalize (fV fs).1=C at *;generalize (fV fs).2=ce at *;generalize (dS fs).elim 0 (max · 0)=q at *;generalize (dS fs).elim false (fun r=>decide (0<=r))=has at *;generalize (dS fs).elim (14:Int) (fun _=>0)=le at *;generalize ((aJ fs qg).length:Int)=cnt at *;obtain⟨v,hv⟩:∃v,v=nU C ce q has le cnt k:=⟨_,rfl⟩;rw[<-hv];unfold qg at HN;clear hf ok;unfold nU at hv;(repeat' split at hv)<;>subst hv
 all_goals
  simp only[Bool.not_eq_true,Bool.not_eq_false,uB,tZ,tY] at *;go_enter Tryz.func91,Tryz.ntmps91
  go_wp2_with (first
   | (go_at_call 112;refine(HC.out _).mono ?_;rintro e1 w1 ⟨rfl,hb⟩;obtain⟨_,_,_,_,_⟩:=gP (w:=w) hb;clear hb)
   | (go_at_call 113;refine(HO.out _).mono ?_;rintro e2 w2 ⟨rfl,hb⟩;obtain⟨_,_,_,_,_⟩:=gP (w:=w) hb;clear hb)
   | (go_at_call 114;refine(HN.out _).mono ?_;rintro e3 w3 ⟨rfl,hb⟩;obtain⟨_,_,_,_,_⟩:=gP (w:=w) hb;clear hb))
  exact ed Tryz.results91 rfl Tryz.underlying46 rfl (by kernel_rfl) rfl rfl ⟨rfl,Ov.of⟩
theorem sA {fs:List Fd} {k:Int} (h:(bX fs k).1=3):(bX fs k).2.1=0:=by
 unfold bX at *;repeat' split at h
 all_goals first|(simp_all;done)|(simp_all;rw[if_neg (by omega)])
theorem iO (m t r:ByteArray) (k n:Int) (f:Value) (fs:List Fd) (w:World) (hf:bL w f fs) (ok:gk fs):
 Calls Tryz.prog 73 #[.agg #[.string m,.string t,.int .i64 k,.int .i64 n,.string r,f]] w fun e w'=>e=.returned (.tuple #[.agg #[.int .i64 (nb fs k).1,.int .i64 (nb fs k).2.1],.int .i64 (nb fs k).2.2])/\Below w.heap.size w w':=by
 have HH:=lH fun(W:World) [o:Ov w W]=>mC m t r k n f fs W (hf.below o.b) ok;have HS:=lH fun(W:World) [o:Ov w W]=>lV m t r k n f fs W (hf.below o.b) ok;have h3:=sA (fs:=fs) (k:=k);unfold nb;generalize ev fs k=H at *;generalize bX fs k=q at *;obtain⟨q1,q2,q3⟩:=q;clear hf ok
 have hq:(q1=3/\q2=0)\/(q1==3)=false:=by
  by_cases e:q1=3
  ·exact Or.inl ⟨e,h3 e⟩
  ·exact Or.inr (by rw[tT];exact e)
 clear h3;cases H<;>rcases hq with ⟨rfl,rfl⟩|hq
 all_goals
  go_enter Tryz.func73,Tryz.ntmps73
  go_wp2_with (first
   | (go_at_call 90;refine(HH.out _).mono ?_;rintro e1 w1 ⟨rfl,hb⟩;obtain⟨_,_,_,_,_⟩:=gP (w:=w) hb;clear hb)
   | (go_at_call 91;refine(HS.out _).mono ?_;rintro e1 w1 ⟨rfl,hb⟩;obtain⟨_,_,_,_,_⟩:=gP (w:=w) hb;clear hb))
  all_goals
   refine ed Tryz.results73 rfl Tryz.underlying46 rfl (by kernel_rfl) rfl rfl ⟨?_,Ov.of⟩;simp_all
theorem ke (status:Int) (method:ByteArray) (w:World):Calls Tryz.prog 92 #[.int .i64 status,.string method] w fun e w'=>e=.returned (.bool (eu status method))/\Below w.heap.size w w':=by
 have hy:(method.toList=[72,69,65,68])=(method=⟨#[72,69,65,68]⟩):=propext ⟨fun h=>by rw[u1] at h;exact cL h,fun h=>by rw[h,u1]⟩;have hd:(method.toList==[72,69,65,68])=decide (method=⟨#[72,69,65,68]⟩):=by rw[uU,uB,hy,tY]
 go_enter Tryz.func92,Tryz.ntmps92
 go_wp2_with fail
 all_goals
  go_ret;unfold eu;refine⟨?_,tU _ _⟩;rw[Bool.decide_and,show decide (status=204)=(status==204) from rfl,show decide (status=304)=(status==304) from rfl];by_cases h1:100<=status<;>by_cases h2:status<=199<;>simp_all [Bool.or_assoc]<;>omega
theorem kC (m t r:ByteArray) (k n:Int) (f:Value) (fs:List Fd) (method:ByteArray) (w:World) (hf:bL w f fs) (ok:gk fs):
 Calls Tryz.prog 74 #[.agg #[.string m,.string t,.int .i64 k,.int .i64 n,.string r,f],.string method] w fun e w'=>e=.returned (.tuple #[.agg #[.int .i64 (gy fs k n method).1,.int .i64 (gy fs k n method).2.1],.int .i64 (gy fs k n method).2.2])/\Below w.heap.size w w':=by
 have HB:=lH (ke n method);have HS:=lH fun(W:World) [o:Ov w W]=>lV m t r k n f fs W (hf.below o.b) ok;unfold gy;generalize eu n method=H at *;generalize bX fs k=q at *;obtain⟨q1,q2,q3⟩:=q;clear hf ok;cases H
 all_goals
  go_enter Tryz.func74,Tryz.ntmps74
  go_wp2_with (first
   | (go_at_call 92;refine(HB.out _).mono ?_;rintro e1 w1 ⟨rfl,hb⟩;obtain⟨_,_,_,_,_⟩:=gP (w:=w) hb;clear hb)
   | (go_at_call 91;refine(HS.out _).mono ?_;rintro e1 w1 ⟨rfl,hb⟩;obtain⟨_,_,_,_,_⟩:=gP (w:=w) hb;clear hb))
  exact ed Tryz.results74 rfl Tryz.underlying46 rfl (by kernel_rfl) rfl rfl ⟨rfl,Ov.of⟩
end Go.Proofs.YthjbodpeckebiaaGreatDoor
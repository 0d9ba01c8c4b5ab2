/- Texts packed for one claim, 50 of 52: RfI RfJ. -/
import Derived.Test.YthjbodpeckebiaaGreatDoorMrsQ49
import Derived.Test.YthjbodpeckebiaaGreatDoorMrsQ48
import Derived.Test.YthjbodpeckebiaaGreatDoorMrsQ40
import Derived.Test.YthjbodpeckebiaaGreatDoorMrsQ46
set_option maxRecDepth 100000
set_option maxHeartbeats 16000000
set_option linter.unusedSimpArgs false
set_option linter.unusedVariables false
-- RfI
namespace Go.Proofs.YthjbodpeckebiaaGreatDoor
open Go.RowKit
theorem sR {a b:ByteArray} (fs:List Fd) (h:br a=br b):ay fs a=ay fs b:=by unfold ay;rw[h]
def pI (C:Bool) (ce q:Int) (has:Bool) (le:Int) (cnt:Nat) (k:Int):Int×Int×Bool×Int:=
 if ce≠0 then (0,0,false,ce) else if C=true/\(k<1\/0<cnt) then (0,0,false,14) else if le≠0 then (0,0,false,le) else if C=true then (2,0,true,0) else if has=true then (1,q,true,0) else (0,0,false,0)
def dz (fs:List Fd) (k:Int):Int×Int×Bool×Int:=pI (fy fs).1 (fy fs).2 ((dZ fs).elim 0 (max · 0)) ((dZ fs).elim false (fun r=>decide (0<=r))) ((dZ fs).elim 14 (fun _=>0)) (ay fs mT).length k
def jP (C:Bool) (ce:Int) (l:Option Int) (cl:List ByteArray) (k:Int):Int×Int×Int:=
 if ce≠0 then (0,0,ce)
 else if C=true/\(k<=0\/cl≠[]) then (0,0,14)
 else match l with
  | none=>(0,0,14)
  | some n=>if C=true then (2,0,0) else if 0<=n then (1,n,0) else (3,0,0)
theorem zV (C:Bool) (ce:Int) (l:Option Int) (cl:List ByteArray) (k:Int) (S:Int×Int×Int) (hS:S=jP C ce l cl k):pI C ce (l.elim 0 (max · 0)) (l.elim false (fun r=>decide (0<=r))) (l.elim 14 (fun _=>0)) cl.length k=(if S.1=3 then 0 else S.1,S.2.1,decide (S.2.2=0/\S.1≠3),S.2.2):=by
 unfold jP at hS;unfold pI;by_cases h1:ce=0
 ·subst h1
  rw[if_neg (by simp)] at hS ⊢
  have hc:(k<1\/0<cl.length)↔(k<=0\/cl≠[]):=by
   rw[List.length_pos_iff];constructor
   ·rintro (h|h)
    ·exact Or.inl (by omega)
    ·exact Or.inr h
   ·rintro (h|h)
    ·exact Or.inl (by omega)
    ·exact Or.inr h
  by_cases h2:C=true/\(k<=0\/cl≠[])
  ·rw[if_pos h2] at hS
   rw[if_pos ⟨h2.1,hc.2 h2.2⟩,hS];rfl
  ·rw[if_neg h2] at hS
   rw[if_neg (fun h=>h2 ⟨h.1,hc.1 h.2⟩)];cases l with
   | none=>
     have hS:S=(0,0,14):=hS;rw[if_pos (show (none:Option Int).elim (14:Int) (fun _=>0)≠0 by decide),hS];rfl
   | some q=>
     have hS:S=if C=true then (2,0,0) else if 0<=q then (1,q,0) else (3,0,0):=hS
     rw[if_neg (show ¬(some q:Option Int).elim (14:Int) (fun _=>0)≠0 by simp)];by_cases h3:C=true
     ·rw[if_pos h3] at hS
      rw[if_pos h3,hS];rfl
     ·rw[if_neg h3] at hS
      rw[if_neg h3];by_cases h4:0<=q
      ·rw[if_pos h4] at hS
       rw[if_pos (show (some q:Option Int).elim false (fun r=>decide (0<=r))=true from dT h4),hS];show (1,max q 0,true,(0:Int))=(1,q,true,0);rw[show max q 0=q by omega]
      ·rw[if_neg h4] at hS
       rw[if_neg (show ¬(some q:Option Int).elim false (fun r=>decide (0<=r))=true from by simpa using h4),hS];rfl
 ·rw[if_pos h1] at hS ⊢
  rw[hS];show (0,0,false,ce)=(0,0,decide (ce=0/\(0:Int)≠3),ce);rw[dF (fun h=>h1 h.1)]
theorem sc (fs:List Fd) (k:Int):aQ fs k=jP (fy fs).1 (fy fs).2 (dZ fs) (ay fs mT) k:=rfl
theorem ou (fs:List Fd) (k:Int):dz fs k=(if (aQ fs k).1=3 then 0 else (aQ fs k).1,(aQ fs k).2.1,decide ((aQ fs k).2.2=0/\(aQ fs k).1≠3),(aQ fs k).2.2):=
 zV _ _ _ _ _ _ (sc fs k)
structure BL (fs:List Fd):Prop where
 len:fs.length<=100000
 nam:∀g∈fs,g.1.size<=1000000
 val:∀g∈fs,g.2.size<=900000
 tej:(bu (ay fs mR)).size<=900000
 cap:jG (ay fs mT)<=900000
theorem Du {P:Program} {fn:Func} {R:Ending->World->Prop} {a:Act} {W:World} {p u u2 ty g:Nat} {t:TypeId} {cs:Array Value} {d:TypeDesc} {v v2:Value} [h:Rw W g cs t] (hr:fn.results=#[.cell p ty,.tmp u,.tmp u2]) (hp:a.tmps.getD p undef=.pointer (some ⟨g,0,none⟩)) (hu:P.underlying ty=some d) (hd:(match d with | .struct _ | .array _ _=>true|_=>false)=true)
 (hi:(P.info? ty).map (·.size)=some cs.size) (hf:a.defers=[]) (hv:a.tmps.getD u undef=v) (hv2:a.tmps.getD u2 undef=v2) (hR:R (.returned (.tuple #[.agg cs,v,v2])) W):bodyPost P fn R .ret a W:=by
 subst hv hv2;exact EW (cG hr _ _ _ _ hp (E7 _ _ _ _ _ _ _ h.b hu hd hi)) hf hR
theorem zZ (C:Bool) (ce q:Int) (has:Bool) (le:Int) (cnt:Nat) (k:Int):pI C ce q has le cnt k=if (ce==0)=false then (0,0,false,ce) else if C=true then (if decide (k<1)=true then (0,0,false,14) else if decide (0<(cnt:Int))=true then (0,0,false,14) else if (le==0)=false then (0,0,false,le) else (2,0,true,0)) else if (le==0)=false then (0,0,false,le) else if has=true then (1,q,true,0) else (0,0,false,0):=by
 unfold pI;(repeat' split)<;>simp_all<;>omega
theorem pY (m t r:ByteArray) (k n:Int) (f:Value) (fs:List Fd) (w:World) (hF:cu w f fs) (ok:BL fs):
 Calls Tryz.prog 85 #[.agg #[.string m,.string t,.int .i64 k,.int .i64 n,.string r,f]] w fun e w'=>e=.returned (.tuple #[.agg #[.int .i64 (dz fs k).1,.int .i64 (dz fs k).2.1],.bool (dz fs k).2.2.1,.int .i64 (dz fs k).2.2.2])/\Below w.heap.size w w':=by
 have HC:=lH fun W [o:Ov w W]=>se fs f W (hF.below o.b) ok.len ok.nam (fun g hg=>by have:=ok.val g hg;omega) ok.tej;have HO:=lH fun W [o:Ov w W]=>vK fs f W (hF.below o.b) (by have:=ok.len;omega) ok.nam ok.val ok.cap
 have HA:Hid (∀W [Ov w W],Calls Tryz.prog 83 #[f,.string ⟨#[99,111,110,116,101,110,116,45,108,101,110,103,116,104]⟩] W fun e w'=>∃p c,e=.returned (.slice p (ay fs mT).length c)/\Below W.heap.size W w'):=fun W o=>by
  refine(kM fs _ _ W (hF.below o.b) (by have:=ok.len;omega) ok.nam (by decide)).mono ?_;rintro e w' ⟨v,rfl,ho,hb⟩;obtain⟨p',c',rfl⟩:=ap.shape ho;rw[sR (b:=mT) fs (by decide +kernel)];exact⟨_,_,rfl,hb⟩
 unfold dz;generalize (fy fs).1=C at *;generalize (fy fs).2=ce at *;generalize (dZ fs).elim 0 (max · 0)=q at *;generalize (dZ fs).elim false (fun r=>decide (0<=r))=has at *;generalize (dZ fs).elim (14:Int) (fun _=>0)=le at *;generalize (ay fs mT).length=cnt at *;obtain⟨v,hv⟩:∃v,v=pI C ce q has le cnt k:=⟨_,rfl⟩;rw[<-hv];clear hF ok;rw[zZ] at hv;(repeat' split at hv)<;>subst hv
 all_goals
  simp only[Bool.not_eq_true,Bool.not_eq_false,FA,EP,EO] at *;go_enter Tryz.func85,Tryz.ntmps85
  go_wp2_with (first
   | (go_at_call 104;refine(HC.out _).mono ?_;rintro e1 w1 ⟨rfl,hb⟩;obtain⟨_,_,_,_,_⟩:=fQ (w:=w) hb;clear hb)
   | (go_at_call 105;refine(HO.out _).mono ?_;rintro e2 w2 ⟨rfl,hb⟩;obtain⟨_,_,_,_,_⟩:=fQ (w:=w) hb;clear hb)
   | (go_at_call 83;refine(HA.out _).mono ?_;rintro e3 w3 ⟨p3,c3,rfl,hb⟩;obtain⟨_,_,_,_,_⟩:=fQ (w:=w) hb;clear hb))
  exact Du Tryz.results85 rfl Tryz.underlying46 rfl (by kernel_rfl) rfl rfl rfl ⟨rfl,Ov.of⟩
end Go.Proofs.YthjbodpeckebiaaGreatDoor
-- RfJ
namespace Go.Proofs.YthjbodpeckebiaaGreatDoor
open Go.RowKit
theorem zh {C:Bool} {ce:Int} {l:Option Int} {cl:List ByteArray} {k:Int}:(jP C ce l cl k).2.2≠0->jP C ce l cl k=(0,0,(jP C ce l cl k).2.2):=by
 unfold jP;split
 ·intro _;rfl
 split
 ·intro _;rfl
 split
 ·intro _;rfl
 split
 ·intro h;exact absurd rfl h
 split
 ·intro h;exact absurd rfl h
 ·intro h;exact absurd rfl h
theorem tg {C:Bool} {ce:Int} {l:Option Int} {cl:List ByteArray} {k:Int}:(jP C ce l cl k).1=3->jP C ce l cl k=(3,0,0):=by
 unfold jP;split
 ·intro h;cases h
 split
 ·intro h;cases h
 split
 ·intro h;cases h
 split
 ·intro h;cases h
 split
 ·intro h;cases h
 ·intro _;rfl
theorem yg {fs:List Fd} {k:Int} (h:(aQ fs k).2.2≠0):aQ fs k=(0,0,(aQ fs k).2.2):=by
 rw[sc] at h ⊢;exact zh h
theorem mE {fs:List Fd} {k:Int} (h:(aQ fs k).1=3):aQ fs k=(3,0,0):=by
 rw[sc] at h ⊢;exact tg h
theorem zP {fs:List Fd} {k:Int} (h:ir fs k=true):kT fs k=((dz fs k).1,(dz fs k).2.1,(dz fs k).2.2.2):=by
 unfold kT;rw[if_neg (by rw[h];decide),ou];by_cases h3:(aQ fs k).1=3
 ·rw[mE h3];rfl
 ·rw[if_neg h3]
  show aQ fs k=(if (aQ fs k).1=3 then 0 else (aQ fs k).1,(aQ fs k).2.1,(aQ fs k).2.2);rw[if_neg h3]
theorem zr (fs:List Fd) (k status:Int) (method:ByteArray):fK fs k status method=if (dz fs k).2.2.2≠0\/dh status method=true then (0,0,(dz fs k).2.2.2) else if (dz fs k).2.2.1=false then (3,0,(dz fs k).2.2.2) else ((dz fs k).1,(dz fs k).2.1,(dz fs k).2.2.2):=by
 have e:(dz fs k).2.2.2=(aQ fs k).2.2:=by rw[ou]
 rw[e];unfold fK;by_cases hb:dh status method=true
 ·rw[if_pos hb,if_pos (Or.inr hb)]
 ·rw[if_neg hb]
  by_cases h0:(aQ fs k).2.2=0
  ·rw[if_neg (by rintro (h|h);exact h h0;exact hb h)]
   rw[ou];by_cases h3:(aQ fs k).1=3
   ·rw[if_pos (show decide ((aQ fs k).2.2=0/\(aQ fs k).1≠3)=false from dF (fun h=>h.2 h3)),mE h3]
   ·rw[if_neg (show ¬decide ((aQ fs k).2.2=0/\(aQ fs k).1≠3)=false by rw[dT (show (aQ fs k).2.2=0/\(aQ fs k).1≠3 from ⟨h0,h3⟩)];decide)]
    show aQ fs k=(if (aQ fs k).1=3 then 0 else (aQ fs k).1,(aQ fs k).2.1,(aQ fs k).2.2);rw[if_neg h3]
  ·rw[if_pos (Or.inl h0)]
   exact yg h0
theorem o9 (status:Int) (method:ByteArray) (w:World):Calls Tryz.prog 86 #[.int .i64 status,.string method] w fun e w'=>e=.returned (.bool (dh status method))/\w=w':=by
 have hy:(method.toList=[72,69,65,68])=(method=⟨#[72,69,65,68]⟩):=propext ⟨fun h=>by rw[Gj] at h;exact bj h,fun h=>by rw[h,Gj]⟩;have hd:(method.toList==[72,69,65,68])=decide (method=⟨#[72,69,65,68]⟩):=by rw[F6,FA,hy,EO]
 go_enter Tryz.func86,Tryz.ntmps86
 go_wp2_with fail
 all_goals
  go_ret;unfold dh;refine⟨?_,rfl⟩;rw[Bool.decide_and,show decide (status=204)=(status==204) from rfl,show decide (status=304)=(status==304) from rfl,show decide (status<=199)=decide (status<200) from decide_eq_decide.2 (by omega)];by_cases h1:100<=status<;>by_cases h2:status<200<;>simp_all [Bool.or_assoc]<;>omega
theorem oZ (m t r:ByteArray) (k n:Int) (f:Value) (fs:List Fd) (method:ByteArray) (w:World) (hF:cu w f fs) (ok:BL fs):
 Calls Tryz.prog 58 #[.agg #[.string m,.string t,.int .i64 k,.int .i64 n,.string r,f],.string method] w fun e w'=>e=.returned (.tuple #[.agg #[.int .i64 (fK fs k n method).1,.int .i64 (fK fs k n method).2.1],.int .i64 (fK fs k n method).2.2])/\Below w.heap.size w w':=by
 have HB:=lH (o9 n method);have HS:=lH fun W [o:Ov w W]=>pY m t r k n f fs W (hF.below o.b) ok;obtain⟨Z,hZ⟩:∃Z,Z=fK fs k n method:=⟨_,rfl⟩;rw[<-hZ];rw[zr] at hZ;replace hZ:=lH hZ;generalize dh n method=H at *;generalize dz fs k=q at *;obtain⟨q1,q2,qs,q3⟩:=q;clear hF ok
 have hq:q3=0\/((q3==0)=false/\(q3 != 0)=true):=by
  by_cases e:q3=0
  ·exact Or.inl e
  ·exact Or.inr ⟨EJ.2 e,FP.2 e⟩
 cases H<;>cases qs<;>rcases hq with rfl|⟨hq,hq2⟩
 all_goals
  go_enter Tryz.func58,Tryz.ntmps58
  go_wp2_with (first
   | (go_at_call 85;refine(HS.out _).mono ?_;rintro e1 w1 ⟨rfl,hb⟩;obtain⟨_,_,_,_,_⟩:=fQ (w:=w) hb;clear hb)
   | (go_at_call 86;refine(HB.out _).mono ?_;rintro e1 w1 ⟨rfl,rfl⟩))
  refine gr Tryz.results58 rfl Tryz.underlying46 rfl (by kernel_rfl) rfl rfl ⟨?_,Ov.of⟩;have hZ:=hZ.out;simp_all
theorem pu (m t r:ByteArray) (k n:Int) (f:Value) (fs:List Fd) (w:World) (hF:cu w f fs) (ok:BL fs):
 Calls Tryz.prog 57 #[.agg #[.string m,.string t,.int .i64 k,.int .i64 n,.string r,f]] w fun e w'=>e=.returned (.tuple #[.agg #[.int .i64 (kT fs k).1,.int .i64 (kT fs k).2.1],.int .i64 (kT fs k).2.2])/\Below w.heap.size w w':=by
 have HS:=lH fun W [o:Ov w W]=>pY m t r k n f fs W (hF.below o.b) ok
 have HA:Hid (∀W [Ov w W],Calls Tryz.prog 83 #[f,.string ⟨#[104,111,115,116]⟩] W fun e w'=>∃v,e=.returned v/\ap w' W.heap.size v (ay fs zA)/\Below W.heap.size W w'):=fun W o=>by
  have h:=kM fs f ⟨#[104,111,115,116]⟩ W (hF.below o.b) (by have:=ok.len;omega) ok.nam (by decide);rw[sR (b:=zA) fs (by decide +kernel)] at h;exact h
 have hvs:∀s∈ay fs zA,s.size<=1000000:=fun s hss=>by
  unfold ay at hss;obtain⟨q,hq,rfl⟩:=List.mem_map.1 hss;have:=ok.val q (List.mem_filter.1 hq).1;omega
 obtain⟨Z,hZ⟩:∃Z,Z=kT fs k:=⟨_,rfl⟩;rw[<-hZ]
 have HZ:Hid (Z=if kz (ay fs zA) k=true then ((dz fs k).1,(dz fs k).2.1,(dz fs k).2.2.2) else (0,0,13)):=by
  show _=_;rw[hZ,<-nW];split
  ·rename_i h;exact zP h
  ·rename_i h;unfold kT;rw[if_pos (by simpa using h)]
 clear hZ;generalize dz fs k=q at *;obtain⟨q1,q2,qs,q3⟩:=q;generalize ay fs zA=A at *;clear hF ok;rcases A with _|⟨s,_|⟨s2,rest⟩⟩;rotate_left
 ·have HR:=lH (pd s (hvs s (by simp)))
  clear hvs;have hn1:0 < [s].length:=Nat.zero_lt_one;have hz:Hid (kz [s] k=((eY s.data.toList).2.2==0)):=rfl;generalize (eY s.data.toList).2.2=z at *;generalize (eY s.data.toList).2.1=z1 at *;rw[hz.out] at HZ;clear hz;have hq:z=0\/(z==0)=false:=by rw[EJ];omega
  rcases hq with rfl|hq
  all_goals
   go_enter Tryz.func57,Tryz.ntmps57
   go_wp2_with (first
    | (go_at_call 83;refine(HA.out _).mono ?_;rintro e1 w1 ⟨v1,rfl,ho,hb⟩;obtain⟨_,_,_,_,_⟩:=fQ (w:=w) hb;clear hb;obtain⟨p1,c1,rfl,hc⟩:=ho.strs;clear ho;replace hc:=hc 0 hn1;obtain⟨b,off,rfl,hc⟩:=hc;simp at hc)
    | (go_at_call 84;refine(HR.out _).mono ?_;rintro e2 w2 ⟨nm,rfl,rfl⟩)
    | (go_at_call 85;refine(HS.out _).mono ?_;rintro e1 w1 ⟨rfl,hb⟩;obtain⟨_,_,_,_,_⟩:=fQ (w:=w) hb;clear hb))
   refine gr Tryz.results57 rfl Tryz.underlying46 rfl (by kernel_rfl) rfl rfl ⟨?_,Ov.of⟩;have hZ:=HZ.out;simp_all
 ·obtain⟨L,hL⟩:∃L,L=(s :: s2 :: rest).length:=⟨_,rfl⟩
  have l0:decide ((1:Int)<(L:Int))=true:=dT (by rw[hL,EQ,EQ];omega);have l1:decide (1<L)=true:=dT (by rw[hL,EQ,EQ];omega);replace hL:=lH hL;clear hvs;go_enter Tryz.func57,Tryz.ntmps57
  go_wp2_with (go_at_call 83;refine(HA.out _).mono ?_;rintro e1 w1 ⟨v1,rfl,ho,hb⟩;obtain⟨_,_,_,_,_⟩:=fQ (w:=w) hb;clear hb;obtain⟨p1,c1,rfl,hc⟩:=ho.strs;clear ho;rw[<-hL.out];clear hc)
  refine gr Tryz.results57 rfl Tryz.underlying46 rfl (by kernel_rfl) rfl rfl ⟨?_,Ov.of⟩;rw[HZ.out];rfl
 ·clear hvs
  replace HZ:=HZ.out;unfold kz at HZ;by_cases hk:0<k
  ·rw[if_neg (by rw[EO];omega)] at HZ
   subst HZ;have d0:decide (0<k)=true:=dT hk;clear hk;go_enter Tryz.func57,Tryz.ntmps57
   go_wp2_with (go_at_call 83;refine(HA.out _).mono ?_;rintro e1 w1 ⟨v1,rfl,ho,hb⟩;obtain⟨_,_,_,_,_⟩:=fQ (w:=w) hb;clear hb;obtain⟨p1,c1,rfl,hc⟩:=ho.strs;clear ho hc)
   exact gr Tryz.results57 rfl Tryz.underlying46 rfl (by kernel_rfl) rfl rfl ⟨rfl,Ov.of⟩
  ·rw[if_pos (by rw[EO];omega)] at HZ
   subst HZ;have d0:decide (0<k)=false:=dF hk;clear hk;go_enter Tryz.func57,Tryz.ntmps57
   go_wp2_with (first
    | (go_at_call 83;refine(HA.out _).mono ?_;rintro e1 w1 ⟨v1,rfl,ho,hb⟩;obtain⟨_,_,_,_,_⟩:=fQ (w:=w) hb;clear hb;obtain⟨p1,c1,rfl,hc⟩:=ho.strs;clear ho hc)
    | (go_at_call 85;refine(HS.out _).mono ?_;rintro e1 w1 ⟨rfl,hb⟩;obtain⟨_,_,_,_,_⟩:=fQ (w:=w) hb;clear hb))
   exact gr Tryz.results57 rfl Tryz.underlying46 rfl (by kernel_rfl) rfl rfl ⟨rfl,Ov.of⟩
end Go.Proofs.YthjbodpeckebiaaGreatDoor
/- Texts packed for one claim, 17 of 48: HeadP HParse. -/
import Derived.Test.YthjbodpeckebiaaGreatDoorRdnQ13
import Derived.Test.YthjbodpeckebiaaGreatDoorRdnQ16
import Derived.Test.YthjbodpeckebiaaGreatDoorRdnQ2
import Derived.Test.YthjbodpeckebiaaGreatDoorRdnQ5
set_option maxRecDepth 100000
set_option maxHeartbeats 16000000
set_option linter.unusedSimpArgs false
set_option linter.unusedVariables false
-- HeadP
namespace Go.Proofs.YthjbodpeckebiaaGreatDoor
open Go.RowKit
structure Hd where
 m:ByteArray
 t:ByteArray
 k:Int
 n:Int
 r:ByteArray
 fs:List Fd
def cR:Hd:=⟨⟨#[]⟩,⟨#[]⟩,0,0,⟨#[]⟩,[]⟩
def Hd.row (h:Hd) (f:Value):Array Value:=#[.string h.m,.string h.t,.int .i64 h.k,.int .i64 h.n,.string h.r,f]
def aG:Value:=.slice none 0 0
def aY (kind:Int) (s:ByteArray):Hd×Int:=
 if kind=1 then (⟨(da s).1.1,(da s).1.2.1,(da s).1.2.2,0,⟨#[]⟩,[]⟩,(da s).2) else (⟨⟨#[]⟩,⟨#[]⟩,(dL s).1.1,(dL s).1.2.1,(dL s).1.2.2,[]⟩,(dL s).2)
theorem oM (kind:Int) (s:ByteArray):(aY kind s).1.fs=[]:=by unfold aY;split<;>rfl
def bs (kind fields fold:Int) (l:List ByteArray):Hd×Int:=
 if kind≠1/\kind≠2 then (cR,1) else match l with
 | []=>(cR,2)
 | s :: rest=>if (aY kind s).2≠0 then (cR,(aY kind s).2) else if fields<(rest.length:Int) then (cR,4)
   else if (bN fold rest).2≠0 then (cR,(bN fold rest).2) else ({ (aY kind s).1 with fs:=(bN fold rest).1 },0)
def sO:Value->Prop
 | .slice _ n c=>n<=c
 | _=>True
theorem dy.tail {w:World} {b off m c:Nat} {s:ByteArray} {rest:List ByteArray} (h:dy w (.slice (some ⟨b,off,none⟩) (m+1) c) (s :: rest)):m=rest.length/\w.cell? ⟨b,off,none⟩=some (.string s)/\(∀c',dy w (.slice (some ⟨b,off+1,none⟩) m c') rest)/\(m=0->∀p c',dy w (.slice p 0 c') rest):=by
 obtain⟨p,c',hv,hc⟩:=h
 have hm:m=rest.length:=by
  injection hv with _ h2 _
  simpa using h2
 injection hv with hp _ _
 refine⟨hm,?_,fun c2=>⟨_,c2,by rw[hm],fun i hi=>?_⟩,fun h0 p c2=>?_⟩
 ·obtain⟨b',off',hp',h1⟩:=hc 0 (by simp)
  rw[<-hp] at hp';cases hp'
  exact h1
 ·obtain⟨b',off',hp',h1⟩:=hc (i+1) (by simpa using hi)
  rw[<-hp] at hp';cases hp'
  exact⟨b,off+1,rfl,by rw[uY,Nat.add_comm 1 i];exact h1⟩
 ·have:rest=[]:=t9 (by omega)
  subst this;exact dy.nil _ _ _
theorem oN (kind:Int) (hk:kind=1\/kind=2) (s:ByteArray) (hs:s.size<=100000) {mx:Int} (w:World) (hm:w.cell? ⟨0,0,none⟩=some (.int .i64 mx)):
 Calls Tryz.prog 107 #[.int .i64 kind,.string s] w fun e w'=>e=.returned (.tuple #[.agg ((aY kind s).1.row aG),.int .i64 (aY kind s).2])/\Below w.heap.size w w':=by
 have HM:Hid ((w.alloc (.cells #[.string ⟨#[]⟩,.string ⟨#[]⟩,.int .i64 0,.int .i64 0,.string ⟨#[]⟩,.slice none 0 0] 44)).cell? ⟨0,0,none⟩=some (.int .i64 mx)):=bP hm ((tU _ _).alloc (nR _) _);rcases hk with rfl|rfl
 ·obtain⟨a,ha⟩:∃a,a=aY 1 s:=⟨_,rfl⟩
  have HR:=lH (fun(W:World) (hW:W.cell? ⟨0,0,none⟩=some (.int .i64 mx))=>lR s hs (m:=a.1.m) (t:=a.1.t) (k:=a.1.k) (e:=a.2) (by rw[ha];rfl) W hW)
  have HA:Hid ((aY 1 s).1.row aG=#[.string a.1.m,.string a.1.t,.int .i64 a.1.k,.int .i64 0,.string ⟨#[]⟩,.slice none 0 0]/\(aY 1 s).2=a.2):=by
   show _/\_;rw[ha];exact⟨rfl,rfl⟩
  clear ha hm;go_enter Tryz.func107,Tryz.ntmps107
  go_wp2_with (go_at_call 137;refine(HR.out _ HM.out).mono ?_;rintro e1 w1 ⟨rfl,hb⟩;have K1:=lH ((ac.new w #[.string ⟨#[]⟩,.string ⟨#[]⟩,.int .i64 0,.int .i64 0,.string ⟨#[]⟩,.slice none 0 0] 44).call hb);have B1:=lH (cb hb);clear hb;have a0:=K1.out.cell 0;have f0:=K1.out.froz 0;have a1:=K1.out.cell 1;have f1:=K1.out.froz 1;have a2:=K1.out.cell 2;have f2:=K1.out.froz 2;have a3:=K1.out.cell 3;have f3:=K1.out.froz 3;have a4:=K1.out.cell 4;have f4:=K1.out.froz 4;have a5:=K1.out.cell 5;have f5:=K1.out.froz 5;simp at a0 a1 a2 a3 a4 a5)
  rw[HA.out.1,HA.out.2];exact ub (ak Tryz.results107 _ _ _ _ rfl (uh _ _ _ _ _ _ _ (cI K1.out _ _ _ _ _ _) Tryz.underlying44 rfl (by kernel_rfl))) rfl ⟨rfl,bG B1.out (nR _) _ _ _ _ _ _⟩
 ·obtain⟨a,ha⟩:∃a,a=aY 2 s:=⟨_,rfl⟩
  have HR:=lH (fun(W:World)=>np s hs (k:=a.1.k) (n:=a.1.n) (r:=a.1.r) (e:=a.2) (by rw[ha];rfl) W)
  have HA:Hid ((aY 2 s).1.row aG=#[.string ⟨#[]⟩,.string ⟨#[]⟩,.int .i64 a.1.k,.int .i64 a.1.n,.string a.1.r,.slice none 0 0]/\(aY 2 s).2=a.2):=by
   show _/\_;rw[ha];exact⟨rfl,rfl⟩
  clear ha hm;go_enter Tryz.func107,Tryz.ntmps107
  go_wp2_with (go_at_call 138;refine(HR.out _).mono ?_;rintro e1 w1 ⟨rfl,hb⟩;have K1:=lH ((ac.new w #[.string ⟨#[]⟩,.string ⟨#[]⟩,.int .i64 0,.int .i64 0,.string ⟨#[]⟩,.slice none 0 0] 44).call hb);have B1:=lH (cb hb);clear hb;have a0:=K1.out.cell 0;have f0:=K1.out.froz 0;have a1:=K1.out.cell 1;have f1:=K1.out.froz 1;have a2:=K1.out.cell 2;have f2:=K1.out.froz 2;have a3:=K1.out.cell 3;have f3:=K1.out.froz 3;have a4:=K1.out.cell 4;have f4:=K1.out.froz 4;have a5:=K1.out.cell 5;have f5:=K1.out.froz 5;simp at a0 a1 a2 a3 a4 a5)
  rw[HA.out.1,HA.out.2];exact ub (ak Tryz.results107 _ _ _ _ rfl (uh _ _ _ _ _ _ _ (cI K1.out _ _ _ _ _ _) Tryz.underlying44 rfl (by kernel_rfl))) rfl ⟨rfl,bG B1.out (nR _) _ _ _ _ _ _⟩
end Go.Proofs.YthjbodpeckebiaaGreatDoor
-- HParse
namespace Go.Proofs.YthjbodpeckebiaaGreatDoor
open Go.RowKit
theorem eq (w:World) (L Z:Array Value) (t t':TypeId):ac ((w.alloc (.cells L t)).alloc (.cells Z t')) (w.heap.size+1) Z t':=ac.new' (by simp)
theorem ep (w:World) (o o':Obj):Below w.heap.size w ((w.alloc o).alloc o'):=((tU _ _).alloc (nR _) _).alloc (by simp) _
theorem mE (kind a fields c d fold:Int) (h1:kind≠1) (h2:kind≠2) (v:Value) (w:World):
 Calls Tryz.prog 89 #[.int .i64 kind,.agg #[.int .i64 a,.int .i64 fields,.int .i64 c,.int .i64 d,.int .i64 fold],v] w fun e w'=>e=.returned (.tuple #[.agg (cR.row aG),.int .i64 1])/\Below w.heap.size w w':=by
 have e1:(kind != 1)=true:=by simpa using h1
 have e2:(kind != 2)=true:=by simpa using h2
 have HB:=lH (ep w (.cells #[.int .i64 a,.int .i64 fields,.int .i64 c,.int .i64 d,.int .i64 fold] 24) (.cells #[.string ⟨#[]⟩,.string ⟨#[]⟩,.int .i64 0,.int .i64 0,.string ⟨#[]⟩,.slice none 0 0] 44));have HZ:=lH (eq w #[.int .i64 a,.int .i64 fields,.int .i64 c,.int .i64 d,.int .i64 fold] #[.string ⟨#[]⟩,.string ⟨#[]⟩,.int .i64 0,.int .i64 0,.string ⟨#[]⟩,.slice none 0 0] 24 44);clear h1 h2;go_enter Tryz.func89,Tryz.ntmps89
 go_wp2_with fail
 exact ub (ak Tryz.results89 _ _ _ _ rfl (uh _ _ _ _ _ _ _ HZ.out Tryz.underlying44 rfl (by kernel_rfl))) rfl ⟨rfl,HB.out⟩
theorem mF (kind a fields c d fold:Int) (h1:kind=1\/kind=2) (p:Option Addr) (cc:Nat) (w:World):
 Calls Tryz.prog 89 #[.int .i64 kind,.agg #[.int .i64 a,.int .i64 fields,.int .i64 c,.int .i64 d,.int .i64 fold],.slice p 0 cc] w fun e w'=>e=.returned (.tuple #[.agg (cR.row aG),.int .i64 2])/\Below w.heap.size w w':=by
 have HB:=lH (ep w (.cells #[.int .i64 a,.int .i64 fields,.int .i64 c,.int .i64 d,.int .i64 fold] 24) (.cells #[.string ⟨#[]⟩,.string ⟨#[]⟩,.int .i64 0,.int .i64 0,.string ⟨#[]⟩,.slice none 0 0] 44));have HZ:=lH (eq w #[.int .i64 a,.int .i64 fields,.int .i64 c,.int .i64 d,.int .i64 fold] #[.string ⟨#[]⟩,.string ⟨#[]⟩,.int .i64 0,.int .i64 0,.string ⟨#[]⟩,.slice none 0 0] 24 44);rcases h1 with rfl|rfl
 all_goals
  go_enter Tryz.func89,Tryz.ntmps89
  go_wp2_with fail
  exact ub (ak Tryz.results89 _ _ _ _ rfl (uh _ _ _ _ _ _ _ HZ.out Tryz.underlying44 rfl (by kernel_rfl))) rfl ⟨rfl,HB.out⟩
structure HpS (w:World) (L R:Array Value) (g:Nat) (v:World):Prop where
 l:ac v w.heap.size L 24
 z:ac v (w.heap.size+1) #[.string ⟨#[]⟩,.string ⟨#[]⟩,.int .i64 0,.int .i64 0,.string ⟨#[]⟩,.slice none 0 0] 44
 h:ac v g R 44
 u:Below w.heap.size w v
 lt:w.heap.size+1<g
theorem HpS.below {w v v':World} {L R:Array Value} {g:Nat} (h:HpS w L R g v) (b:Below v.heap.size v v'):HpS w L R g v':=⟨h.l.call b,h.z.call b,h.h.call b,h.u.trans (b.mono h.u.size),h.lt⟩
theorem oZ (kd:Int) (hkd:kd=1\/kd=2) (a fields c d fold:Int) (hfi:-9223372036854775808<=fields/\fields<=9223372036854775807) (b off m cc:Nat) (s:ByteArray) (rest:List ByteArray) (w:World) {mx:Int} (hm:w.cell? ⟨0,0,none⟩=some (.int .i64 mx)) (hS:dy w (.slice (some ⟨b,off,none⟩) (m+1) cc) (s :: rest)) (hcap:m+1<=cc) (hn:m<=100000) (ht:du (s :: rest)<=100000):
 Calls Tryz.prog 89 #[.int .i64 kd,.agg #[.int .i64 a,.int .i64 fields,.int .i64 c,.int .i64 d,.int .i64 fold],.slice (some ⟨b,off,none⟩) (m+1) cc] w fun e w'=>∃f,e=.returned (.tuple #[.agg ((bs kd fields fold (s :: rest)).1.row f),.int .i64 (bs kd fields fold (s :: rest)).2])/\aj w' w.heap.size f (bs kd fields fold (s :: rest)).1.fs/\Below w.heap.size w w':=by
 obtain⟨hmr,hs0,htl,htl0⟩:=hS.tail;have hts:s.size<=100000:=by rw[ej] at ht;omega
 have htr:du rest<=100000:=by rw[ej] at ht;omega
 obtain⟨A,hA⟩:∃A,aY kd s=A:=⟨_,rfl⟩;have hAfs:A.1.fs=[]:=by rw[<-hA];exact oM _ _
 have hF:=fun(W:World) (hW:W.cell? ⟨0,0,none⟩=some (.int .i64 mx))=>oN kd hkd s hts W hW;rw[hA] at hF
 have hP:bs kd fields fold (s :: rest)=if A.2≠0 then (cR,A.2) else if fields<(rest.length:Int) then (cR,4) else if (bN fold rest).2≠0 then (cR,(bN fold rest).2) else ({ A.1 with fs:=(bN fold rest).1 },0):=by
  unfold bs;rw[if_neg (by omega)];show (if (aY kd s).2≠0 then (cR,(aY kd s).2) else _)=_;rw[hA]
 obtain⟨⟨m1,t1,k1,n1,r1,fs1⟩,e1⟩:=A;have hAfs:fs1=[]:=hAfs;subst hAfs;simp only[Hd.row,aG] at hF;have HF:=lH hF;have HP:=lH hP;have HM:Hid (((w.alloc (.cells #[.int .i64 a,.int .i64 fields,.int .i64 c,.int .i64 d,.int .i64 fold] 24)).alloc (.cells #[.string ⟨#[]⟩,.string ⟨#[]⟩,.int .i64 0,.int .i64 0,.string ⟨#[]⟩,.slice none 0 0] 44)).cell? ⟨0,0,none⟩=some (.int .i64 mx)):=bP hm (ep w _ _);have HM0:=lH hm;have HTL:=lH (And.intro htl htl0);have HTR:=lH htr;have HMR:=lH hmr;have hwm:wrap64 (m:Int)=m:=uQ _ ⟨Int.le_trans (by decide) (Int.natCast_nonneg m),Int.le_trans (Int.ofNat_le.2 hn) (by decide)⟩;have hs1:=fun W (hW:Below w.heap.size w W)=>(dY hW b off (t8 _ _ hs0)).trans hs0;have hs2:=hs1 _ (ep w (.cells #[.int .i64 a,.int .i64 fields,.int .i64 c,.int .i64 d,.int .i64 fold] 24) (.cells #[.string ⟨#[]⟩,.string ⟨#[]⟩,.int .i64 0,.int .i64 0,.string ⟨#[]⟩,.slice none 0 0] 44));have hi0:(0:Int)<(m:Int)+1:=by omega
 have hne0:((m:Int)+1==0)=false:=by rw[tT];omega
 clear hA hF hP hm hS htl htl0 htr ht hts hs0 hs1 hmr;by_cases he1:e1=0
 rotate_left
 ·have he2:(e1 != 0)=true:=by simpa using he1
  have hR:bs kd fields fold (s :: rest)=(cR,e1):=by rw[HP.out,if_pos he1]
  have HR:=lH hR;clear hR he1;rcases hkd with rfl|rfl
  all_goals (
  go_enter Tryz.func89,Tryz.ntmps89
  go_wp2_with (go_at_call 107;refine(HF.out _ HM.out).mono ?_;rintro e1 w2 ⟨rfl,hb⟩;have KL:=lH (((ac.new w #[.int .i64 a,.int .i64 fields,.int .i64 c,.int .i64 d,.int .i64 fold] 24).alloc (.cells #[.string ⟨#[]⟩,.string ⟨#[]⟩,.int .i64 0,.int .i64 0,.string ⟨#[]⟩,.slice none 0 0] 44)).call hb);have KZ:=lH ((eq w #[.int .i64 a,.int .i64 fields,.int .i64 c,.int .i64 d,.int .i64 fold] #[.string ⟨#[]⟩,.string ⟨#[]⟩,.int .i64 0,.int .i64 0,.string ⟨#[]⟩,.slice none 0 0] 24 44).call hb);have B2:=lH (de hb);have hz2:=hb.size;clear hb;have KL3:=lH (KL.out.alloc (.cells #[.string m1,.string t1,.int .i64 k1,.int .i64 n1,.string r1,.slice none 0 0] 44));have KZ3:=lH (KZ.out.alloc (.cells #[.string m1,.string t1,.int .i64 k1,.int .i64 n1,.string r1,.slice none 0 0] 44));have z0:=KZ3.out.cell 0;have zf0:=KZ3.out.froz 0;have z1:=KZ3.out.cell 1;have zf1:=KZ3.out.froz 1;have z2:=KZ3.out.cell 2;have zf2:=KZ3.out.froz 2;have z3:=KZ3.out.cell 3;have zf3:=KZ3.out.froz 3;have z4:=KZ3.out.cell 4;have zf4:=KZ3.out.froz 4;have z5:=KZ3.out.cell 5;have zf5:=KZ3.out.froz 5;simp at z0 z1 z2 z3 z4 z5)
  exact ub (ak Tryz.results89 _ _ _ _ rfl (uh _ _ _ _ _ _ _ (cI KZ3.out _ _ _ _ _ _) Tryz.underlying44 rfl (by kernel_rfl))) rfl ⟨aG,by rw[HR.out];rfl,by rw[HR.out];exact aj.start _ _,bG (B2.out.alloc B2.out.size _) (uN _) _ _ _ _ _ _⟩)
 subst he1;by_cases hlo:fields<(m:Int)
 ·have hlo2:decide (fields<(m:Int))=true:=dT hlo
  have hR:bs kd fields fold (s :: rest)=(cR,4):=by rw[HP.out,if_neg (by simp),if_pos (by rw[<-HMR.out];exact hlo)]
  have HR:=lH hR;clear hR;rcases hkd with rfl|rfl
  all_goals (
  go_enter Tryz.func89,Tryz.ntmps89
  go_wp2_with (go_at_call 107;refine(HF.out _ HM.out).mono ?_;rintro e1 w2 ⟨rfl,hb⟩;have KL:=lH (((ac.new w #[.int .i64 a,.int .i64 fields,.int .i64 c,.int .i64 d,.int .i64 fold] 24).alloc (.cells #[.string ⟨#[]⟩,.string ⟨#[]⟩,.int .i64 0,.int .i64 0,.string ⟨#[]⟩,.slice none 0 0] 44)).call hb);have KZ:=lH ((eq w #[.int .i64 a,.int .i64 fields,.int .i64 c,.int .i64 d,.int .i64 fold] #[.string ⟨#[]⟩,.string ⟨#[]⟩,.int .i64 0,.int .i64 0,.string ⟨#[]⟩,.slice none 0 0] 24 44).call hb);have B2:=lH (de hb);have hz2:=hb.size;clear hb;have KL3:=lH (KL.out.alloc (.cells #[.string m1,.string t1,.int .i64 k1,.int .i64 n1,.string r1,.slice none 0 0] 44));have KZ3:=lH (KZ.out.alloc (.cells #[.string m1,.string t1,.int .i64 k1,.int .i64 n1,.string r1,.slice none 0 0] 44));have z0:=KZ3.out.cell 0;have zf0:=KZ3.out.froz 0;have z1:=KZ3.out.cell 1;have zf1:=KZ3.out.froz 1;have z2:=KZ3.out.cell 2;have zf2:=KZ3.out.froz 2;have z3:=KZ3.out.cell 3;have zf3:=KZ3.out.froz 3;have z4:=KZ3.out.cell 4;have zf4:=KZ3.out.froz 4;have z5:=KZ3.out.cell 5;have zf5:=KZ3.out.froz 5;simp at z0 z1 z2 z3 z4 z5;have q0:=KL3.out.cell 0;have qf0:=KL3.out.froz 0;have q1:=KL3.out.cell 1;have qf1:=KL3.out.froz 1;have q2:=KL3.out.cell 2;have qf2:=KL3.out.froz 2;have q3:=KL3.out.cell 3;have qf3:=KL3.out.froz 3;have q4:=KL3.out.cell 4;have qf4:=KL3.out.froz 4;simp at q0 q1 q2 q3 q4)
  exact ub (ak Tryz.results89 _ _ _ _ rfl (uh _ _ _ _ _ _ _ (cI KZ3.out _ _ _ _ _ _) Tryz.underlying44 rfl (by kernel_rfl))) rfl ⟨aG,by rw[HR.out];rfl,by rw[HR.out];exact aj.start _ _,bG (B2.out.alloc B2.out.size _) (uN _) _ _ _ _ _ _⟩)
 have hlo2:decide (fields<(m:Int))=false:=dF hlo;have hR:bs kd fields fold (s :: rest)=if (bN fold rest).2≠0 then (cR,(bN fold rest).2) else (⟨m1,t1,k1,n1,r1,(bN fold rest).1⟩,0):=by rw[HP.out,if_neg (by simp),if_neg (by rw[<-HMR.out];exact hlo)]
 have HR:=lH hR;clear hR hlo HP;obtain⟨tp,htp⟩:∃tp,tp=(if cc=1 then some (⟨b,off,none⟩:Addr) else some ⟨b,off+1,none⟩):=⟨_,rfl⟩
 have htS:dy w (.slice tp m (cc - 1)) rest:=by
  by_cases hc1:cc=1
  ·have:m=0:=by omega
   subst this;exact HTL.out.2 rfl _ _
  ·rw[htp,if_neg hc1];exact HTL.out.1 _
 have HTS:=lH htS;have HTP:=lH htp;obtain⟨⟨F,ef⟩,hAF⟩:∃x,bN fold rest=x:=⟨_,rfl⟩;have HFA:=lH (fun(V:World) (hV:Below w.heap.size w V)=>lg fold (.slice tp m (cc - 1)) rest V (bP HM0.out hV) (htS.below hV) (by have:=HMR.out;omega) (by have:=HTR.out;omega));rw[hAF] at HFA HR;have HI1:=lH (show (1:Int)<=(m:Int)+1 by omega);clear htS htp hAF;rcases hkd with rfl|rfl
 all_goals (
 go_enter Tryz.func89,Tryz.ntmps89
 go_wp2_with (go_at_call 107;refine(HF.out _ HM.out).mono ?_;rintro e1 w2 ⟨rfl,hb⟩;have KL:=lH (((ac.new w #[.int .i64 a,.int .i64 fields,.int .i64 c,.int .i64 d,.int .i64 fold] 24).alloc (.cells #[.string ⟨#[]⟩,.string ⟨#[]⟩,.int .i64 0,.int .i64 0,.string ⟨#[]⟩,.slice none 0 0] 44)).call hb);have KZ:=lH ((eq w #[.int .i64 a,.int .i64 fields,.int .i64 c,.int .i64 d,.int .i64 fold] #[.string ⟨#[]⟩,.string ⟨#[]⟩,.int .i64 0,.int .i64 0,.string ⟨#[]⟩,.slice none 0 0] 24 44).call hb);have B2:=lH (de hb);have hz2:=hb.size;clear hb;have KL3:=lH (KL.out.alloc (.cells #[.string m1,.string t1,.int .i64 k1,.int .i64 n1,.string r1,.slice none 0 0] 44));have KZ3:=lH (KZ.out.alloc (.cells #[.string m1,.string t1,.int .i64 k1,.int .i64 n1,.string r1,.slice none 0 0] 44));have q0:=KL3.out.cell 0;have qf0:=KL3.out.froz 0;have q1:=KL3.out.cell 1;have qf1:=KL3.out.froz 1;have q2:=KL3.out.cell 2;have qf2:=KL3.out.froz 2;have q3:=KL3.out.cell 3;have qf3:=KL3.out.froz 3;have q4:=KL3.out.cell 4;have qf4:=KL3.out.froz 4;simp at q0 q1 q2 q3 q4)
 refine br (S:=fun v=>ac v w.heap.size #[.int .i64 a,.int .i64 fields,.int .i64 c,.int .i64 d,.int .i64 fold] 24) (by kernel_rfl) ?_;intro V0 hV0;have h0:ac V0 w.heap.size #[.int .i64 a,.int .i64 fields,.int .i64 c,.int .i64 d,.int .i64 fold] 24:=by rw[hV0];exact(KL.out.alloc _).drew
 have HS:Hid (HpS w #[.int .i64 a,.int .i64 fields,.int .i64 c,.int .i64 d,.int .i64 fold] #[.string m1,.string t1,.int .i64 k1,.int .i64 n1,.string r1,.slice none 0 0] w2.heap.size V0):=by
  show HpS _ _ _ _ _;rw[hV0];exact⟨(KL.out.alloc _).drew,(KZ.out.alloc _).drew,(ac.new _ _ _).drew,(B2.out.alloc B2.out.size _).drew,by have:=hz2;simp at this;omega⟩
 clear hV0 KL KZ B2 hlo2;refine tV (i:=0) (v:=.pointer (some ⟨w.heap.size,4,none⟩)) rfl (by kernel_rfl) (by kernel_rfl) (by kernel_rfl) (fun _ _ _ h=>h) (Or.inl ⟨by kernel_rfl,?_⟩) h0 ?_
 ·intro v hv
  clear hv;go_simp
 (try simp only[Act.put,lS,lZ,lC])
 refine tV (i:=1) (v:=.int .i64 fold) rfl (by kernel_rfl) (by kernel_rfl) (by kernel_rfl) (fun _ _ _ h=>h) (Or.inl ⟨by kernel_rfl,?_⟩) h0 ?_
 ·intro v hv
  have q:=hv.cell 4;simp at q;clear hv;go_simp
 (try simp only[Act.put,lS,lZ,lC])
 refine tV (i:=2) (v:=.slice (some ⟨b,off,none⟩) (m+1) cc) rfl (by kernel_rfl) (by kernel_rfl) (by kernel_rfl) (fun _ _ _ h=>h) (Or.inl ⟨by kernel_rfl,?_⟩) h0 ?_
 ·intro v hv
  clear hv;go_simp
 (try simp only[Act.put,lS,lZ,lC])
 refine tV (i:=3) (v:=.slice tp m (cc - 1)) rfl (by kernel_rfl) (by kernel_rfl) (by kernel_rfl) (fun _ _ _ h=>h) (Or.inl ⟨by kernel_rfl,?_⟩) h0 ?_
 ·intro v hv
  clear hv;go_simp;rw[if_pos HI1.out,HTP.out]
 (try simp only[Act.put,lS,lZ,lC])
 refine uq (rs:=[4]) (by kernel_rfl) (by simp) ?_;refine uf rfl (fun K hK=>?_) um;go_simp;refine(HFA.out _ HS.out.u).mono ?_;rintro e V1 ⟨f,rfl,hof,hb1⟩;obtain⟨pf,cf,rfl⟩:=aV hof;have HS1:=lH (HS.out.below hb1);have HO1:=lH hof;have h1:=h0.call hb1;have HLT:=lH HS.out.h.lt;have HLE:=lH HS.out.u.size;clear hof hb1 h0;refine hK _ _ h1 (fun _=>?_);clear hK K;(try simp only[Act.put,lS,lZ,lC])
 refine tV (i:=5) (v:=.tuple #[.slice pf F.length cf,.int .i64 ef]) rfl (by kernel_rfl) (by kernel_rfl) (by kernel_rfl) (fun _ _ _ h=>h) (Or.inl ⟨by kernel_rfl,?_⟩) h1 ?_
 ·intro v hv
  clear hv;go_simp
 (try simp only[Act.put,lS,lZ,lC])
 refine tV (i:=6) (v:=.slice pf F.length cf) rfl (by kernel_rfl) (by kernel_rfl) (by kernel_rfl) (fun _ _ _ h=>h) (Or.inl ⟨by kernel_rfl,?_⟩) h1 ?_
 ·intro v hv
  clear hv;go_simp
 (try simp only[Act.put,lS,lZ,lC])
 refine tV (i:=7) (v:=.int .i64 ef) rfl (by kernel_rfl) (by kernel_rfl) (by kernel_rfl) (fun _ _ _ h=>h) (Or.inl ⟨by kernel_rfl,?_⟩) h1 ?_
 ·intro v hv
  clear hv;go_simp
 (try simp only[Act.put,lS,lZ,lC])
 refine tV (i:=8) (v:=.pointer (some ⟨w2.heap.size,5,none⟩)) rfl (by kernel_rfl) (by kernel_rfl) (by kernel_rfl) (fun _ _ _ h=>h) (Or.inl ⟨by kernel_rfl,?_⟩) h1 ?_
 ·intro v hv
  clear hv;go_simp
 (try simp only[Act.put,lS,lZ,lC])
 refine uq (rs:=[9]) (by kernel_rfl) (by simp) ?_;refine uf rfl (fun K hK=>?_) um;have a5:=HS1.out.h.cell 5;have a5f:=HS1.out.h.froz 5;simp at a5;have h2:=h1.far (p:=⟨w2.heap.size,5,none⟩) (Nat.ne_of_lt (Nat.lt_of_succ_lt HS1.out.lt)) (.slice pf F.length cf);go_simp;clear a5 a5f;refine hK _ _ h2 (fun _=>?_);clear hK K;(try simp only[Act.put,lS,lZ,lC])
 refine uq (rs:=[10]) (by kernel_rfl) (by simp) ?_;refine uf rfl (fun K hK=>?_) um;go_simp;refine hK _ _ h2 (fun _=>?_);clear hK K;(try simp only[Act.put,lS,lZ,lC])
 refine wpAnyH_done (by kernel_rfl) ?_ _
 have KH:ac (V1.setCell ⟨w2.heap.size,5,none⟩ (.slice pf F.length cf)) w2.heap.size #[.string m1,.string t1,.int .i64 k1,.int .i64 n1,.string r1,.slice pf F.length cf] 44:=by
  have:=HS1.out.h.set 5 (.slice pf F.length cf);simpa using this
 have KZ2:=HS1.out.z.far (p:=⟨w2.heap.size,5,none⟩) (Nat.ne_of_lt HS1.out.lt) (.slice pf F.length cf);have KO:=cB HO1.out HLT.out 5 (.slice pf F.length cf);have KU:=HS1.out.u.setCell (p:=⟨w2.heap.size,5,none⟩) (Nat.le_of_lt (Nat.lt_of_succ_lt HS1.out.lt)) (.slice pf F.length cf);have hls:=HS1.out.lt;clear h1 h2 HS HS1 HO1;generalize V1.setCell ⟨w2.heap.size,5,none⟩ (.slice pf F.length cf)=V2 at KH KZ2 KO KU ⊢;have HKH:=lH KH;have HKZ:=lH KZ2;have HKO:=lH KO;have HKU:=lH KU;have HLS:=lH (Nat.lt_trans hls HLT.out);clear KH KZ2 KO KU hls;have z0:=HKZ.out.cell 0;have zf0:=HKZ.out.froz 0;have z1:=HKZ.out.cell 1;have zf1:=HKZ.out.froz 1;have z2:=HKZ.out.cell 2;have zf2:=HKZ.out.froz 2;have z3:=HKZ.out.cell 3;have zf3:=HKZ.out.froz 3;have z4:=HKZ.out.cell 4;have zf4:=HKZ.out.froz 4;have z5:=HKZ.out.cell 5;have zf5:=HKZ.out.froz 5;simp at z0 z1 z2 z3 z4 z5;have g0:=HKH.out.cell 0;have gf0:=HKH.out.froz 0;have g1:=HKH.out.cell 1;have gf1:=HKH.out.froz 1;have g2:=HKH.out.cell 2;have gf2:=HKH.out.froz 2;have g3:=HKH.out.cell 3;have gf3:=HKH.out.froz 3;have g4:=HKH.out.cell 4;have gf4:=HKH.out.froz 4;have g5:=HKH.out.cell 5;have gf5:=HKH.out.froz 5;simp at g0 g1 g2 g3 g4 g5;by_cases hef:ef=0
 ·subst hef
  go_wp2_with fail
  exact ub (ak Tryz.results89 _ _ _ _ rfl (uh _ _ _ _ _ _ _ (cI HKZ.out _ _ _ _ _ _) Tryz.underlying44 rfl (by kernel_rfl))) rfl ⟨.slice pf F.length cf,by rw[HR.out];rfl,by rw[HR.out];exact aj.lower (lK HKO.out HLS.out _ _ _ _ _ _) HLE.out,bG HKU.out (uN _) _ _ _ _ _ _⟩
 ·have hef2:(ef != 0)=true:=by simpa using hef
  have HR2:=HR.out.trans (if_pos hef);clear hef;go_wp2_with fail
  exact ub (ak Tryz.results89 _ _ _ _ rfl (uh _ _ _ _ _ _ _ (cI HKZ.out _ _ _ _ _ _) Tryz.underlying44 rfl (by kernel_rfl))) rfl ⟨aG,by rw[HR2];rfl,by rw[HR2];exact aj.start _ _,bG HKU.out (uN _) _ _ _ _ _ _⟩)
end Go.Proofs.YthjbodpeckebiaaGreatDoor
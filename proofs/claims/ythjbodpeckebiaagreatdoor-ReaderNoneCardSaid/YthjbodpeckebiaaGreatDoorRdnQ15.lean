/- Texts packed for one claim, 15 of 48: Status StatusAll StatusR Field. -/
import Derived.Test.YthjbodpeckebiaaGreatDoorRdnQ4
import Derived.Test.YthjbodpeckebiaaGreatDoorRdnQ3
import Derived.Test.YthjbodpeckebiaaGreatDoorRdnQ7
set_option maxRecDepth 100000
set_option maxHeartbeats 16000000
set_option linter.unusedSimpArgs false
set_option linter.unusedVariables false
-- Status
namespace Go.Proofs.YthjbodpeckebiaaGreatDoor
open Go.RowKit
def qh (s:ByteArray):ByteArray:=s.extract 0 8
def dE (s:ByteArray):ByteArray:=s.extract 9 12
def rest13 (s:ByteArray):ByteArray:=s.extract (min 13 s.size) s.size
def iS (s:ByteArray):Bool:=decide (12<=s.size)&&(decide (bt s 8=32)&&((decide (s.size=12)||decide (bt s 12=32))&&(bK (qh s)&&(cg (bt s 9)&&(cg (bt s 10)&&cg (bt s 11))))))
def dL (s:ByteArray):(Int×Int×ByteArray)×Int:=
 if iS s=false then ((0,0,⟨#[]⟩),3)
 else if (aH (qh s)).2≠0 then ((0,0,⟨#[]⟩),(aH (qh s)).2)
 else if dU 10 (dE s).data.toList<100\/599<dU 10 (dE s).data.toList then ((0,0,⟨#[]⟩),12)
 else if gW (rest13 s).data.toList=false then ((0,0,⟨#[]⟩),7)
 else (((aH (qh s)).1,dU 10 (dE s).data.toList,rest13 s),0)
theorem mr {s:ByteArray} (hs:s.size<=9223372036854775807) {p:Bool} (h:bK (qh s)=p) (w:World):Calls Tryz.prog 168 #[.string (s.extract 0 8)] w fun e w'=>e=.returned (.bool p)/\w=w':=
 dh (s:=s.extract 0 8) (by simp;omega) h w
theorem sc {s:ByteArray} (hs:s.size<=9223372036854775807) {n e:Int} (h:al (dE s).data.toList 10 999=(n,e)) (w:World):Calls Tryz.prog 145 #[.string (s.extract 9 12),.int .i64 999] w fun r w'=>r=.returned (.tuple #[.int .i64 n,.int .i64 e])/\Below w.heap.size w w':=
 kk (dE s) 999 (by unfold dE;simp;omega) (by decide) (by decide) n e h w
theorem o9 {s:ByteArray} (hs:s.size<=9223372036854775807) {k f:Int} (h:aH (qh s)=(k,f)) (w:World):Calls Tryz.prog 167 #[.string (s.extract 0 8)] w fun r w'=>r=.returned (.tuple #[.int .i64 k,.int .i64 f])/\w=w':=
 fY (qh s) (by unfold qh;simp;omega) h w
theorem iE (s:ByteArray) (h:12<=s.size):(dE s).data.toList=[s[9]'(by omega),s[10]'(by omega),s[11]'(by omega)]:=by
 unfold dE;rw[Lib.extract_data,un (by simp;omega),un (by simp;omega),un (by simp;omega)];rfl
theorem sd (s:ByteArray) (k:Nat) (h:k<s.size):cK 10 (s[k]'h)=cg (bt s k):=by
 have h1:=cd s k h;have h2:0<=bt s k/\bt s k<=255:=cq s k;unfold cK;rw[<-h1];unfold cg av;rw[uU,tY,tY];repeat' split
 all_goals omega
theorem o8 {s:ByteArray} (h:12<=s.size) (h1:((dE s).data.toList.all (cK 10))=true):dU 10 (dE s).data.toList<=999:=by
 rw[iE s h] at h1 ⊢;simp only[List.all_cons,List.all_nil,Bool.and_true,ux,cK,tY] at h1;simp only[dU,List.foldl_cons,List.foldl_nil];omega
theorem sj {s:ByteArray} (h:12<=s.size):al (dE s).data.toList 10 999=if (dE s).data.toList.all (cK 10)=true then (dU 10 (dE s).data.toList,0) else (0,3):=by
 have he:(dE s).data.toList.isEmpty=false:=by rw[iE s h];rfl
 unfold al;rw[he];cases h1:(dE s).data.toList.all (cK 10)
 ·rfl
 ·have:=o8 h h1
  simp[this]
theorem nl {s:ByteArray} {a k f:Int} {p g v:Bool} {x:ByteArray} (ha:dU 10 (dE s).data.toList=a) (hk:aH (qh s)=(k,f)) (hp:bK (qh s)=p) (hg:(cg (bt s 9)&&(cg (bt s 10)&&cg (bt s 11)))=g) (hx:rest13 s=x) (hv:gW (rest13 s).data.toList=v):
 dL s=if 12<=(s.size:Int)/\bt s 8=32/\((s.size:Int)<=12\/bt s 12=32)/\p=true/\g=true then (if f≠0 then ((0,0,⟨#[]⟩),f) else if ¬100<=a\/¬a<=599 then ((0,0,⟨#[]⟩),12) else if v=false then ((0,0,⟨#[]⟩),7) else ((k,a,x),0)) else ((0,0,⟨#[]⟩),3):=by
 unfold dL;rw[ha,hk,hx,show (gW x.data.toList)=v by rw[<-hx];exact hv]
 have e:(iS s=false)=¬(12<=(s.size:Int)/\bt s 8=32/\((s.size:Int)<=12\/bt s 12=32)/\p=true/\g=true):=by
  unfold iS;rw[hp,hg];simp only[<-Bool.not_eq_true,ux,uM,tY];refine uF Not (propext ⟨fun⟨x1,x2,x3,x4⟩=>⟨by omega,x2,x3.imp (fun h=>by omega) id,x4⟩,fun⟨x1,x2,x3,x4⟩=>⟨by omega,x2,x3.imp (fun h=>by omega) id,x4⟩⟩)
 have e2:(a<100\/599<a)=(¬100<=a\/¬a<=599):=by rw[Int.not_le,Int.not_le]
 simp only[e2];by_cases h:12<=(s.size:Int)/\bt s 8=32/\((s.size:Int)<=12\/bt s 12=32)/\p=true/\g=true
 ·rw[if_neg (by rw[e];exact fun n=>n h),if_pos h]
 ·rw[if_pos (by rw[e];exact h),if_neg h]
theorem tB {s:ByteArray} (h:12<=s.size):(dE s).data.toList.all (cK 10)=(cg (bt s 9)&&(cg (bt s 10)&&cg (bt s 11))):=by
 rw[iE s h];simp only[List.all_cons,List.all_nil,sd,Bool.and_true]
theorem np (s:ByteArray) (hs:s.size<=100000) {k n e:Int} {r:ByteArray} (hr:dL s=((k,n,r),e)) (w:World):
 Calls Tryz.prog 138 #[.string s] w fun o w'=>o=.returned (.tuple #[.agg #[.string ⟨#[]⟩,.string ⟨#[]⟩,.int .i64 k,.int .i64 n,.string r,.slice none 0 0],.int .i64 e])/\Below w.heap.size w w':=by
 obtain⟨M,hM,hMs⟩:∃M:Nat,min 13 s.size=M/\M<=s.size:=⟨_,rfl,by omega⟩;have hmin:min 13 (s.size:Int)=(M:Int):=by omega
 have hx:rest13 s=s.extract M s.size:=by unfold rest13;rw[hM]
 obtain⟨a,ha⟩:∃a,dU 10 (dE s).data.toList=a:=⟨_,rfl⟩;obtain⟨k',f,hk⟩:∃k' f,aH (qh s)=(k',f):=⟨_,_,rfl⟩;obtain⟨p,hp⟩:∃p,bK (qh s)=p:=⟨_,rfl⟩;obtain⟨g,hg⟩:∃g,(cg (bt s 9)&&(cg (bt s 10)&&cg (bt s 11)))=g:=⟨_,rfl⟩;obtain⟨v,hv⟩:∃v,gW (rest13 s).data.toList=v:=⟨_,rfl⟩;have HF:=lH fun W=>mr (s:=s) (by omega) hp W;have HK:=lH fun W=>o9 (s:=s) (by omega) hk W;have HV:=lH fun W=>dq (rest13 s) (by rw[hx,uZ];omega) W;have hd:12<=s.size->al (dE s).data.toList 10 999=if g=true then (a,0) else (0,3):=fun h=>by rw[sj h,tB h,hg,ha]
 have HD:Hid (12<=s.size->∀W,Calls Tryz.prog 145 #[.string (s.extract 9 12),.int .i64 999] W fun r w'=>r=.returned (.tuple #[.int .i64 (if g=true then a else 0),.int .i64 (if g=true then 0 else 3)])/\Below W.heap.size W w'):=fun h W=>sc (by omega) (by rw[hd h];cases g<;>rfl) W;rw[nl ha hk hp hg hx hv] at hr;rw[hv,hx] at HV;obtain⟨b8,e8⟩:∃b,b=bt s 8:=⟨_,rfl⟩;obtain⟨b12,e12⟩:∃b,b=bt s 12:=⟨_,rfl⟩;have i8:∀W:World,(12:Int)<=s.size->(Instr.index 9 (.string s) (.int .i64 8)).run Tryz.prog W=.ok (.int .u8 b8) W:=fun W h=>lu s 8 (by omega) e8 W;have i12:∀W:World,(12:Int)<s.size->(Instr.index 9 (.string s) (.int .i64 12)).run Tryz.prog W=.ok (.int .u8 b12) W:=fun W h=>lu s 12 (by omega) e12 W;rw[<-e8,<-e12] at hr;have HR:=lH hr;clear hr ha hk hp hg hv hd hx e8 e12;cases g
 all_goals
  go_enter Tryz.func138,Tryz.ntmps138
  go_wp2_with (first
   | (go_at_call 168;refine(HF.out _).mono ?_;rintro e' w' ⟨rfl,rfl⟩)
   | (go_at_call 145;refine(HD.out (by omega) _).mono ?_;rintro r' w1 ⟨rfl,hb⟩;obtain⟨_,_,_,_,_⟩:=gP (w:=w) hb;clear hb)
   | (go_at_call 167;refine(HK.out _).mono ?_;rintro r' w' ⟨rfl,rfl⟩)
   | (go_at_call 169;refine(HV.out _).mono ?_;rintro r' w1 ⟨rfl,hb⟩;obtain⟨_,_,_,_,_⟩:=gP (w:=w) hb;clear hb))
  all_goals
   refine ed Tryz.results138 rfl Tryz.underlying44 rfl (by kernel_rfl) rfl rfl ⟨?_,Ov.of⟩;have hr:=HR.out;clear HF HK HV HD HR i8 i12;simp only[<-Int.not_le] at *;simp_all [-Int.not_le,-Int.not_lt];try (obtain⟨⟨rfl,rfl,rfl⟩,rfl⟩:=hr;rfl)
end Go.Proofs.YthjbodpeckebiaaGreatDoor
-- StatusAll
-- StatusR
namespace Go.Proofs.YthjbodpeckebiaaGreatDoor
open Go.RowKit
end Go.Proofs.YthjbodpeckebiaaGreatDoor
-- Field
namespace Go.Proofs.YthjbodpeckebiaaGreatDoor
open Go.RowKit
end Go.Proofs.YthjbodpeckebiaaGreatDoor
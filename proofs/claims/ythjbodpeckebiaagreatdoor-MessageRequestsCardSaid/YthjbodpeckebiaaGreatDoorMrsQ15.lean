/- Texts packed for one claim, 15 of 52: Status StatusAll StatusR Field. -/
import Derived.Test.YthjbodpeckebiaaGreatDoorMrsQ4
import Derived.Test.YthjbodpeckebiaaGreatDoorMrsQ3
import Derived.Test.YthjbodpeckebiaaGreatDoorMrsQ7
set_option maxRecDepth 100000
set_option maxHeartbeats 16000000
set_option linter.unusedSimpArgs false
set_option linter.unusedVariables false
-- Status
namespace Go.Proofs.YthjbodpeckebiaaGreatDoor
open Go.RowKit
def qw (s:ByteArray):ByteArray:=s.extract 0 8
def ew (s:ByteArray):ByteArray:=s.extract 9 12
def rest13 (s:ByteArray):ByteArray:=s.extract (min 13 s.size) s.size
def nY (s:ByteArray):Bool:=decide (12<=s.size)&&(decide (bt s 8=32)&&((decide (s.size=12)||decide (bt s 12=32))&&(cS (qw s)&&(cK (bt s 9)&&(cK (bt s 10)&&cK (bt s 11))))))
def fY (s:ByteArray):(Int×Int×ByteArray)×Int:=
 if nY s=false then ((0,0,⟨#[]⟩),3)
 else if (bw (qw s)).2≠0 then ((0,0,⟨#[]⟩),(bw (qw s)).2)
 else if aZ 10 (ew s).data.toList<100\/599<aZ 10 (ew s).data.toList then ((0,0,⟨#[]⟩),12)
 else if ff (rest13 s).data.toList=false then ((0,0,⟨#[]⟩),7)
 else (((bw (qw s)).1,aZ 10 (ew s).data.toList,rest13 s),0)
theorem wl {s:ByteArray} (hs:s.size<=9223372036854775807) {p:Bool} (h:cS (qw s)=p) (w:World):Calls Tryz.prog 168 #[.string (s.extract 0 8)] w fun e w'=>e=.returned (.bool p)/\w=w':=
 gJ (s:=s.extract 0 8) (by simp;omega) h w
theorem C6 {s:ByteArray} (hs:s.size<=9223372036854775807) {n e:Int} (h:am (ew s).data.toList 10 999=(n,e)) (w:World):Calls Tryz.prog 145 #[.string (s.extract 9 12),.int .i64 999] w fun r w'=>r=.returned (.tuple #[.int .i64 n,.int .i64 e])/\Below w.heap.size w w':=
 rB (ew s) 999 (by unfold ew;simp;omega) (by decide) (by decide) n e h w
theorem ye {s:ByteArray} (hs:s.size<=9223372036854775807) {k f:Int} (h:bw (qw s)=(k,f)) (w:World):Calls Tryz.prog 167 #[.string (s.extract 0 8)] w fun r w'=>r=.returned (.tuple #[.int .i64 k,.int .i64 f])/\w=w':=
 lR (qw s) (by unfold qw;simp;omega) h w
theorem nU (s:ByteArray) (h:12<=s.size):(ew s).data.toList=[s[9]'(by omega),s[10]'(by omega),s[11]'(by omega)]:=by
 unfold ew;rw[Lib.extract_data,Fa (by simp;omega),Fa (by simp;omega),Fa (by simp;omega)];rfl
theorem CO (s:ByteArray) (k:Nat) (h:k<s.size):dI 10 (s[k]'h)=cK (bt s k):=by
 have h1:=aA s k h;have h2:0<=bt s k/\bt s k<=255:=bi s k;unfold dI;rw[<-h1];unfold cK az;rw[F6,EO,EO];repeat' split
 all_goals omega
theorem qC {s:ByteArray} (h:12<=s.size) (h1:((ew s).data.toList.all (dI 10))=true):aZ 10 (ew s).data.toList<=999:=by
 rw[nU s h] at h1 ⊢;simp only[List.all_cons,List.all_nil,Bool.and_true,Fq,dI,EO] at h1;simp only[aZ,List.foldl_cons,List.foldl_nil];omega
theorem Dw {s:ByteArray} (h:12<=s.size):am (ew s).data.toList 10 999=if (ew s).data.toList.all (dI 10)=true then (aZ 10 (ew s).data.toList,0) else (0,3):=by
 have he:(ew s).data.toList.isEmpty=false:=by rw[nU s h];rfl
 unfold am;rw[he];cases h1:(ew s).data.toList.all (dI 10)
 ·rfl
 ·have:=qC h h1
  simp[this]
theorem nQ {s:ByteArray} {a k f:Int} {p g v:Bool} {x:ByteArray} (ha:aZ 10 (ew s).data.toList=a) (hk:bw (qw s)=(k,f)) (hp:cS (qw s)=p) (hg:(cK (bt s 9)&&(cK (bt s 10)&&cK (bt s 11)))=g) (hx:rest13 s=x) (hv:ff (rest13 s).data.toList=v):
 fY s=if 12<=(s.size:Int)/\bt s 8=32/\((s.size:Int)<=12\/bt s 12=32)/\p=true/\g=true then (if f≠0 then ((0,0,⟨#[]⟩),f) else if ¬100<=a\/¬a<=599 then ((0,0,⟨#[]⟩),12) else if v=false then ((0,0,⟨#[]⟩),7) else ((k,a,x),0)) else ((0,0,⟨#[]⟩),3):=by
 unfold fY;rw[ha,hk,hx,show (ff x.data.toList)=v by rw[<-hx];exact hv]
 have e:(nY s=false)=¬(12<=(s.size:Int)/\bt s 8=32/\((s.size:Int)<=12\/bt s 12=32)/\p=true/\g=true):=by
  unfold nY;rw[hp,hg];simp only[<-Bool.not_eq_true,Fq,FU,EO];refine FH Not (propext ⟨fun⟨x1,x2,x3,x4⟩=>⟨by omega,x2,x3.imp (fun h=>by omega) id,x4⟩,fun⟨x1,x2,x3,x4⟩=>⟨by omega,x2,x3.imp (fun h=>by omega) id,x4⟩⟩)
 have e2:(a<100\/599<a)=(¬100<=a\/¬a<=599):=by rw[Int.not_le,Int.not_le]
 simp only[e2];by_cases h:12<=(s.size:Int)/\bt s 8=32/\((s.size:Int)<=12\/bt s 12=32)/\p=true/\g=true
 ·rw[if_neg (by rw[e];exact fun n=>n h),if_pos h]
 ·rw[if_pos (by rw[e];exact h),if_neg h]
theorem Ab {s:ByteArray} (h:12<=s.size):(ew s).data.toList.all (dI 10)=(cK (bt s 9)&&(cK (bt s 10)&&cK (bt s 11))):=by
 rw[nU s h];simp only[List.all_cons,List.all_nil,CO,Bool.and_true]
theorem uU (s:ByteArray) (hs:s.size<=100000) {k n e:Int} {r:ByteArray} (hr:fY s=((k,n,r),e)) (w:World):
 Calls Tryz.prog 138 #[.string s] w fun o w'=>o=.returned (.tuple #[.agg #[.string ⟨#[]⟩,.string ⟨#[]⟩,.int .i64 k,.int .i64 n,.string r,.slice none 0 0],.int .i64 e])/\Below w.heap.size w w':=by
 obtain⟨M,hM,hMs⟩:∃M:Nat,min 13 s.size=M/\M<=s.size:=⟨_,rfl,by omega⟩;have hmin:min 13 (s.size:Int)=(M:Int):=by omega
 have hx:rest13 s=s.extract M s.size:=by unfold rest13;rw[hM]
 obtain⟨a,ha⟩:∃a,aZ 10 (ew s).data.toList=a:=⟨_,rfl⟩;obtain⟨k',f,hk⟩:∃k' f,bw (qw s)=(k',f):=⟨_,_,rfl⟩;obtain⟨p,hp⟩:∃p,cS (qw s)=p:=⟨_,rfl⟩;obtain⟨g,hg⟩:∃g,(cK (bt s 9)&&(cK (bt s 10)&&cK (bt s 11)))=g:=⟨_,rfl⟩;obtain⟨v,hv⟩:∃v,ff (rest13 s).data.toList=v:=⟨_,rfl⟩;have HF:=lH fun W=>wl (s:=s) (by omega) hp W;have HK:=lH fun W=>ye (s:=s) (by omega) hk W;have HV:=lH fun W=>gR (rest13 s) (by rw[hx,Gh];omega) W;have hd:12<=s.size->am (ew s).data.toList 10 999=if g=true then (a,0) else (0,3):=fun h=>by rw[Dw h,Ab h,hg,ha]
 have HD:Hid (12<=s.size->∀W,Calls Tryz.prog 145 #[.string (s.extract 9 12),.int .i64 999] W fun r w'=>r=.returned (.tuple #[.int .i64 (if g=true then a else 0),.int .i64 (if g=true then 0 else 3)])/\Below W.heap.size W w'):=fun h W=>C6 (by omega) (by rw[hd h];cases g<;>rfl) W;rw[nQ ha hk hp hg hx hv] at hr;rw[hv,hx] at HV;obtain⟨b8,e8⟩:∃b,b=bt s 8:=⟨_,rfl⟩;obtain⟨b12,e12⟩:∃b,b=bt s 12:=⟨_,rfl⟩;have i8:∀W:World,(12:Int)<=s.size->(Instr.index 9 (.string s) (.int .i64 8)).run Tryz.prog W=.ok (.int .u8 b8) W:=fun W h=>aV s 8 (by omega) e8 W;have i12:∀W:World,(12:Int)<s.size->(Instr.index 9 (.string s) (.int .i64 12)).run Tryz.prog W=.ok (.int .u8 b12) W:=fun W h=>aV s 12 (by omega) e12 W;rw[<-e8,<-e12] at hr;have HR:=lH hr;clear hr ha hk hp hg hv hd hx e8 e12;cases g
 all_goals
  go_enter Tryz.func138,Tryz.ntmps138
  go_wp2_with (first
   | (go_at_call 168;refine(HF.out _).mono ?_;rintro e' w' ⟨rfl,rfl⟩)
   | (go_at_call 145;refine(HD.out (by omega) _).mono ?_;rintro r' w1 ⟨rfl,hb⟩;obtain⟨_,_,_,_,_⟩:=fQ (w:=w) hb;clear hb)
   | (go_at_call 167;refine(HK.out _).mono ?_;rintro r' w' ⟨rfl,rfl⟩)
   | (go_at_call 169;refine(HV.out _).mono ?_;rintro r' w1 ⟨rfl,hb⟩;obtain⟨_,_,_,_,_⟩:=fQ (w:=w) hb;clear hb))
  all_goals
   refine gr Tryz.results138 rfl Tryz.underlying44 rfl (by kernel_rfl) rfl rfl ⟨?_,Ov.of⟩;have hr:=HR.out;clear HF HK HV HD HR i8 i12;simp only[<-Int.not_le] at *;simp_all [-Int.not_le,-Int.not_lt];try (obtain⟨⟨rfl,rfl,rfl⟩,rfl⟩:=hr;rfl)
end Go.Proofs.YthjbodpeckebiaaGreatDoor
-- StatusAll
-- StatusR
namespace Go.Proofs.YthjbodpeckebiaaGreatDoor
open Go.RowKit
theorem sr {s:ByteArray} (hs:s.size<=9223372036854775807) {p:Bool} (h:cS (qw s)=p) (w:World):Calls Tryz.prog 123 #[.string (s.extract 0 8)] w fun e w'=>e=.returned (.bool p)/\w=w':=
 fA (s:=s.extract 0 8) (by simp;omega) h w
theorem wx {s:ByteArray} (hs:s.size<=9223372036854775807) {k f:Int} (h:bw (qw s)=(k,f)) (w:World):Calls Tryz.prog 122 #[.string (s.extract 0 8)] w fun r w'=>r=.returned (.tuple #[.int .i64 k,.int .i64 f])/\w=w':=
 oo (qw s) (by unfold qw;simp;omega) h w
theorem zL {s:ByteArray} (h:12<=s.size) (g9:cK (bt s 9)=true) (g10:cK (bt s 10)=true) (g11:cK (bt s 11)=true):jE (ew s):=by
 intro k hk;have hz:(ew s).size=3:=by unfold ew;simp;omega
 have hb:bt (ew s) k=bt s (k+9):=by
  rw[aA _ k hk,aA s (k+9) (by omega)]
  have h1:(ew s).data.toList[k]? = s.data.toList[k+9]?:=by
   unfold ew;rw[Lib.extract_data,Gn (by omega),Gf,GI]
  rw[EM (by simpa using hk),EM (by simp;omega)] at h1;have h2:=Gs h1;exact FH (fun b:UInt8=>(b.toNat:Int)) h2
 rw[hb];simp only[cK,EO] at g9 g10 g11;rcases (by omega:k=0\/k=1\/k=2) with rfl|rfl|rfl
 ·exact g9
 ·exact g10
 ·exact g11
theorem sA (s:ByteArray) (hs:s.size<=100000) {k n e:Int} {r:ByteArray} (hr:fY s=((k,n,r),e)) (w:World):
 Calls Tryz.prog 99 #[.string s] w fun o w'=>o=.returned (.tuple #[.agg #[.string ⟨#[]⟩,.string ⟨#[]⟩,.int .i64 k,.int .i64 n,.string r,.slice none 0 0],.int .i64 e])/\Below w.heap.size w w':=by
 obtain⟨a,ha⟩:∃a,aZ 10 (ew s).data.toList=a:=⟨_,rfl⟩;obtain⟨k',f,hk⟩:∃k' f,bw (qw s)=(k',f):=⟨_,_,rfl⟩;obtain⟨p,hp⟩:∃p,cS (qw s)=p:=⟨_,rfl⟩;obtain⟨v,hv⟩:∃v,ff (rest13 s).data.toList=v:=⟨_,rfl⟩;obtain⟨x,hx⟩:∃x,rest13 s=x:=⟨_,rfl⟩;obtain⟨b8,e8⟩:∃b,b=bt s 8:=⟨_,rfl⟩;obtain⟨b9,e9⟩:∃b,b=bt s 9:=⟨_,rfl⟩;obtain⟨b10,e10⟩:∃b,b=bt s 10:=⟨_,rfl⟩;obtain⟨b11,e11⟩:∃b,b=bt s 11:=⟨_,rfl⟩;obtain⟨b12,e12⟩:∃b,b=bt s 12:=⟨_,rfl⟩;have i8:∀W:World,(12:Int)<=s.size->(Instr.index 9 (.string s) (.int .i64 8)).run Tryz.prog W=.ok (.int .u8 b8) W:=fun W h=>aV s 8 (by omega) e8 W;have i9:∀W:World,(12:Int)<=s.size->(Instr.index 9 (.string s) (.int .i64 9)).run Tryz.prog W=.ok (.int .u8 b9) W:=fun W h=>aV s 9 (by omega) e9 W;have i10:∀W:World,(12:Int)<=s.size->(Instr.index 9 (.string s) (.int .i64 10)).run Tryz.prog W=.ok (.int .u8 b10) W:=fun W h=>aV s 10 (by omega) e10 W;have i11:∀W:World,(12:Int)<=s.size->(Instr.index 9 (.string s) (.int .i64 11)).run Tryz.prog W=.ok (.int .u8 b11) W:=fun W h=>aV s 11 (by omega) e11 W;have i12:∀W:World,(12:Int)<s.size->(Instr.index 9 (.string s) (.int .i64 12)).run Tryz.prog W=.ok (.int .u8 b12) W:=fun W h=>aV s 12 (by omega) e12 W;have HF:=lH fun W=>sr (s:=s) (by omega) hp W;have HK:=lH fun W=>wx (s:=s) (by omega) hk W
 have HG:Hid (∀(r:Int) (W:World),(r=b9\/r=b10\/r=b11)->Calls Tryz.prog 124 #[.int .u8 r] W fun e w'=>e=.returned (.bool (cK r))/\W=w'):=by
  rintro r W (rfl|rfl|rfl)
  ·exact cI rfl (by rw[e9];exact bi s 9) W
  ·exact cI rfl (by rw[e10];exact bi s 10) W
  ·exact cI rfl (by rw[e11];exact bi s 11) W
 have HN:Hid (12<=s.size->cK b9=true->cK b10=true->cK b11=true->∀W:World,Calls Tryz.prog 103 #[.string (s.extract 9 12),.int .i64 10,.int .i64 999] W fun r w'=>r=.returned (.tuple #[.int .i64 a,.int .i64 0])/\W=w'):=fun h1 h2 h3 h4 W=>by
  have hl:=qC h1 (by rw[Ab h1,<-e9,<-e10,<-e11,h2,h3,h4];rfl);have hz:(ew s).size=3:=by unfold ew;simp;omega
  exact rG (ew s) (by omega) (by omega) (zL h1 (e9▸h2) (e10▸h3) (e11▸h4)) 999 (by decide) (by decide) a 0 (by rw[if_pos hl,ha]) W
 obtain⟨U,hU⟩:∃U:ByteArray->Bool,U=fun z=>ff z.data.toList:=⟨_,rfl⟩
 have HV:Hid (∀z W,(z=⟨#[]⟩\/z=s.extract 13 s.size)->Calls Tryz.prog 125 #[.string z] W fun e w'=>e=.returned (.bool (U z))/\W=w'):=fun z W h=>by
  rw[hU];exact fM z (by rcases h with rfl|rfl;decide;simp;omega) W
 rw[nQ ha hk hp (by rw[<-e9,<-e10,<-e11]) hx hv] at hr;rw[<-e8,<-e12] at hr
 have hX:((s.size:Int)<=13->x=⟨#[]⟩/\v=U ⟨#[]⟩)/\(¬(s.size:Int)<=13->x=s.extract 13 s.size/\v=U (s.extract 13 s.size)):=by
  constructor
  ·intro h
   have:rest13 s=⟨#[]⟩:=by
    apply GU;apply Array.eq_empty_of_size_eq_zero;show (rest13 s).size=0;unfold rest13;simp;omega
   exact⟨by rw[<-hx,this],by rw[<-hv,this,hU]⟩
  ·intro h
   have:rest13 s=s.extract 13 s.size:=by unfold rest13;rw[Nat.min_eq_left (by omega)]
   exact⟨by rw[<-hx,this],by rw[<-hv,this,hU]⟩
 have HX:=lH hX;have HR:=lH hr;clear hr ha hk hp hv e8 e9 e10 e11 e12 hx;clear hU hX
 all_goals
  go_enter Tryz.func99,Tryz.ntmps99
  go_wp2_with (first
   | (go_at_call 123;refine(HF.out _).mono ?_;rintro e' w' ⟨rfl,rfl⟩)
   | (go_at_call 124;refine(HG.out _ _ ?hd).mono ?_;(case hd=>first|exact .inl rfl|exact .inr (.inl rfl)|exact .inr (.inr rfl));rintro e' w' ⟨rfl,rfl⟩)
   | (go_at_call 122;refine(HK.out _).mono ?_;rintro e' w' ⟨rfl,rfl⟩)
   | (go_at_call 103;refine(HN.out (by omega) (by simp_all) (by simp_all) (by simp_all) _).mono ?_;rintro e' w' ⟨rfl,rfl⟩)
   | (go_at_call 125;refine(HV.out _ _ ?hz).mono ?_;(case hz=>first|exact .inl rfl|exact .inr rfl);rintro e' w' ⟨rfl,rfl⟩))
  all_goals
   refine gr Tryz.results99 rfl Tryz.underlying44 rfl (by kernel_rfl) rfl rfl ⟨?_,Ov.of⟩;have hr:=HR.out;have hx:=HX.out;clear HF HK HV HR HG HN HX i8 i9 i10 i11 i12;simp only[<-Int.not_le] at *;simp_all [-Int.not_le,-Int.not_lt];try (obtain⟨⟨rfl,rfl,rfl⟩,rfl⟩:=hr;rfl)
end Go.Proofs.YthjbodpeckebiaaGreatDoor
-- Field
namespace Go.Proofs.YthjbodpeckebiaaGreatDoor
open Go.RowKit
end Go.Proofs.YthjbodpeckebiaaGreatDoor
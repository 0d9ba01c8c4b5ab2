/- Texts packed for one claim, 8 of 52: Goes. -/
import Derived.Test.YthjbodpeckebiaaGreatDoorMrsQ6
import Derived.Test.YthjbodpeckebiaaGreatDoorMrsQ7
import Derived.Shelf.Strings.SlTrimAscii
import Derived.IntWalk
set_option maxRecDepth 100000
set_option maxHeartbeats 16000000
set_option linter.unusedSimpArgs false
set_option linter.unusedVariables false
-- Goes
namespace Go.Proofs.YthjbodpeckebiaaGreatDoor
open Go.RowKit
def gY (s:ByteArray):Bool:=match s.data.toList with
 | []=>false
 | b :: _=>b==32||b==9
def iS (s:ByteArray):ByteArray:=⟨(Lib.trimRightS s.data.toList [32,9]).toArray⟩
theorem lF (s:ByteArray):(iS s).size<=s.size:=by
 have h1:(Lib.trimRightS s.data.toList [32,9]).length<=s.data.toList.length:=by
  unfold Lib.trimRightS;rw[List.length_reverse];refine nT (List.dropWhile_sublist _).length_le ?_;rw[List.length_reverse];exact nR _
 show (Lib.trimRightS s.data.toList [32,9]).toArray.size<=_;simpa using h1
theorem zC (s:ByteArray) (hs:s.size<=9223372036854775807) (w:World):Calls Tryz.prog 171 #[.string s,.string ⟨#[32,9]⟩] w fun e w'=>e=.returned (.string (iS s))/\Below w.heap.size w w':=
 Any.strings_TrimRight_laid Tryz.lays162 (by kernel_rfl) s ⟨#[32,9]⟩ w hs (by decide) (fun j b h=>by
  have e:(⟨#[32,9]⟩:ByteArray).data.toList=[32,9]:=rfl;rw[e] at h;match j,h with
  | 0,h=>simp at h;subst h;decide
  | 1,h=>simp at h;subst h;decide)
theorem xb (l:List UInt8) (c:UInt8):Lib.hasPrefix l [c]=(match l with | []=>false|b :: _=>b==c):=by
 cases l with
 | nil=>simp[Lib.hasPrefix]
 | cons b l=>
   simp only[Lib.hasPrefix,List.isPrefixOf];rw[Bool.and_true,F6,FA,FA];exact eq_comm
theorem tj (s:ByteArray) (w:World):Calls Tryz.prog 173 #[.string s] w fun e w'=>e=.returned (.bool (gY s))/\w=w':=by
 have h1:=fun W=>Tryz.strings_HasPrefix s ⟨#[32]⟩ W;have h2:=fun W=>Tryz.strings_HasPrefix s ⟨#[9]⟩ W;have e1:(⟨#[32]⟩:ByteArray).data.toList=[32]:=rfl;have e2:(⟨#[9]⟩:ByteArray).data.toList=[9]:=rfl;rw[e1,xb] at h1;rw[e2,xb] at h2;unfold gY;cases hl:s.data.toList with
 | nil=>
   rw[hl] at h1 h2;have H1:=lH h1;have H2:=lH h2;clear h1 h2 e1 e2 hl;go_enter Tryz.func173,Tryz.ntmps173
   go_wp2_with (go_at_call 205;first|(refine(H1.out _).mono ?_;rintro e' w' ⟨rfl,rfl⟩)|(refine(H2.out _).mono ?_;rintro e' w' ⟨rfl,rfl⟩))
   go_ret;exact⟨rfl,rfl⟩
 | cons b l=>
   rw[hl] at h1 h2;dsimp only at h1 h2
   obtain⟨p,hp⟩:∃p,p=(b==32):=⟨_,rfl⟩;obtain⟨q,hq⟩:∃q,q=(b==9):=⟨_,rfl⟩;rw[<-hp] at h1;rw[<-hq] at h2;have HV:Hid ((b==32||b==9)=(p||q)):=by show _=_;rw[hp,hq]
   have H1:=lH h1;have H2:=lH h2;clear h1 h2 e1 e2 hl hp hq;cases p
   ·go_enter Tryz.func173,Tryz.ntmps173
    go_wp2_with (go_at_call 205;first|(refine(H1.out _).mono ?_;rintro e' w' ⟨rfl,rfl⟩)|(refine(H2.out _).mono ?_;rintro e' w' ⟨rfl,rfl⟩))
    go_ret;dsimp only
    rw[HV.out];exact⟨rfl,rfl⟩
   ·go_enter Tryz.func173,Tryz.ntmps173
    go_wp2_with (go_at_call 205;first|(refine(H1.out _).mono ?_;rintro e' w' ⟨rfl,rfl⟩)|(refine(H2.out _).mono ?_;rintro e' w' ⟨rfl,rfl⟩))
    go_ret;dsimp only
    rw[HV.out];exact⟨rfl,rfl⟩
theorem Cm (s:ByteArray) (h:0<s.size):gY s=(decide (bt s 0=32)||decide (bt s 0=9)):=by
 have hz:0<s.data.toList.length:=by simpa using h
 have hb:bt s 0=((s.data.toList[0]'hz).toNat:Int):=by rw[aA s 0 h];rfl
 unfold gY;cases hl:s.data.toList with
 | nil=>rw[hl] at hz;simp at hz
 | cons b l=>
   have:s.data.toList[0]'hz=b:=by simp[hl]
   rw[this] at hb;dsimp only
   rw[hb];congr 1
   ·rw[F6,FA,decide_eq_true_iff,<-Fg]
    have:(32:UInt8).toNat=32:=rfl;omega
   ·rw[F6,FA,decide_eq_true_iff,<-Fg]
    have:(9:UInt8).toNat=9:=rfl;omega
theorem qU (s:ByteArray) (hs:s.size<=1000000) (w:World):Calls Tryz.prog 156 #[.string s] w fun e w'=>e=.returned (.bool (gY s))/\w=w':=by
 by_cases h0:s.size=0
 ·have HV:Hid (gY s=false):=by
   show gY s=false;unfold gY;have:s.data.toList=[]:=EU (by simpa using h0);rw[this]
  have hz:decide ((0:Int)<(s.size:Int))=false:=by simp[h0]
  have hz2:decide (0<s.size)=false:=by simp[h0]
  have hz3:¬0<s.size:=by omega
  clear h0;go_enter Tryz.func156,Tryz.ntmps156
  go_wp2_with fail
  go_ret;rw[HV.out];exact⟨rfl,rfl⟩
 ·have hp:0<s.size:=by omega
  have hix:∀W:World,(Instr.index 9 (.string s) (.int .i64 0)).run Tryz.prog W=.ok (.int .u8 (bt s 0)) W:=aj s 0 hp;have HV:=lH (Cm s hp);obtain⟨b,hb⟩:∃b,b=bt s 0:=⟨_,rfl⟩;rw[<-hb] at hix HV;have hpi:(0:Int)<(s.size:Int):=by omega
  clear h0 hb;by_cases h1:b=32
  ·subst h1
   go_enter Tryz.func156,Tryz.ntmps156
   go_wp2_with fail
   go_ret;rw[HV.out];exact⟨rfl,rfl⟩
  ·have g1:(b==32)=false:=by rw[EJ];exact h1
   have HE:Hid (gY s=(b==9)):=by
    show gY s=_;rw[HV.out,dF h1];rfl
   clear h1 HV;cases g2:(b==9)
   ·have HF:=HE.out
    rw[g2] at HF;have HF:=lH HF;clear HE;go_enter Tryz.func156,Tryz.ntmps156
    go_wp2_with fail
    go_ret;rw[HF.out];exact⟨rfl,rfl⟩
   ·have HF:=HE.out
    rw[g2] at HF;have HF:=lH HF;clear HE;go_enter Tryz.func156,Tryz.ntmps156
    go_wp2_with fail
    go_ret;rw[HF.out];exact⟨rfl,rfl⟩
theorem nL (l:List UInt8) (b:UInt8):Lib.trimRightS (l++[b]) [32,9]=if b=32\/b=9 then Lib.trimRightS l [32,9] else l++[b]:=by
 unfold Lib.trimRightS;rw[List.reverse_append];show (List.dropWhile _ (b :: l.reverse)).reverse=_;rw[List.dropWhile_cons];by_cases h:b=32\/b=9
 ·have:([32,9]:List UInt8).contains b=true:=by simpa using h
  rw[if_pos this,if_pos h]
 ·have:([32,9]:List UInt8).contains b=false:=by simpa using h
  rw[if_neg (by rw[this];simp),if_neg h,List.reverse_cons,List.reverse_reverse]
theorem wR (s:ByteArray) (h:0<s.size):∃(b:UInt8),s.data.toList=(s.extract 0 (s.size - 1)).data.toList++[b]/\bt s (s.size - 1)=(b.toNat:Int):=by
 have hz:s.data.toList.length=s.size:=by simp
 have hlt:s.size - 1<s.data.toList.length:=by omega
 refine⟨s.data.toList[s.size - 1]'hlt,?_,?_⟩
 ·have e:(s.extract 0 (s.size - 1)).data.toList=s.data.toList.take (s.size - 1):=by
   rw[ByteArray.data_extract,Array.toList_extract];simp[List.extract_eq_take_drop]
  rw[e,<-E8 hlt,Fh (by omega)]
 ·rw[aA s _ (by omega)]
  rfl
theorem yU (s:ByteArray) (h:0<s.size) (hb:bt s (s.size - 1)=32\/bt s (s.size - 1)=9):iS (s.extract 0 (s.size - 1))=iS s:=by
 obtain⟨b,e1,e2⟩:=wR s h;unfold iS;rw[e1,nL,if_pos];rw[e2] at hb;have h1:(32:UInt8).toNat=32:=rfl;have h2:(9:UInt8).toNat=9:=rfl;rcases hb with hb|hb
 ·left;apply Fg.1;omega
 ·right;apply Fg.1;omega
theorem qy (s:ByteArray) (hb:s.size=0\/(bt s (s.size - 1)≠32/\bt s (s.size - 1)≠9)):iS s=s:=by
 by_cases h:0<s.size
 ·obtain⟨b,e1,e2⟩:=wR s h
  have hb:=hb.resolve_left (by omega);rw[e2] at hb;unfold iS;rw[e1,nL,if_neg,<-e1];rintro (rfl|rfl)
  ·exact hb.1 rfl
  ·exact hb.2 rfl
 ·have:s.data.toList=[]:=EU (by simpa using (by omega:s.size=0))
  unfold iS;rw[this];apply GU;apply Array.toList_inj.1;rw[this];rfl
theorem Ax (s:ByteArray) (hs:s.size<=1000000) (w:World):Calls Tryz.prog 157 #[.string s] w fun e w'=>e=.returned (.string (iS s))/\w=w':=by
 obtain⟨E,hE⟩:∃E,E=iS s:=⟨_,rfl⟩;have HE:=lH hE;rw[<-hE];clear hE;go_enter Tryz.func157,Tryz.ntmps157
 go_wp2_with fail
 go_loop [0] (fun v=>∃S:ByteArray,v=.string S/\S.size<=1000000/\iS S=E) (fun v=>match v with | .string S=>S.size|_=>0)
 case atStart=>exact⟨s,rfl,hs,HE.out.symm⟩
 case round=>
  obtain⟨S,rfl,hS,hSE⟩:=hrel;have HSE:=lH hSE;clear hSE;by_cases h0:S.size=0
  ·have HX:Hid (E=S):=HSE.out.symm.trans (qy S (Or.inl h0))
   have hz:decide ((0:Int)<(S.size:Int))=false:=by simp[h0]
   have hz2:decide (0<S.size)=false:=by simp[h0]
   have hz3:¬0<S.size:=by omega
   clear h0;go_wp2_with fail
   go_ret;rw[HX.out];exact⟨rfl,rfl⟩
  ·have hp:0<S.size:=by omega
   have hpi:(0:Int)<(S.size:Int):=by omega
   have hSi:(S.size:Int)<=1000000:=by omega
   have hix:∀W:World,(Instr.index 9 (.string S) (.int .i64 ((S.size:Int) - 1))).run Tryz.prog W=.ok (.int .u8 (bt S (S.size - 1))) W:=fun W=>by
    have:=aj S (S.size - 1) (by omega) W;rw[show ((S.size - 1:Nat):Int)=(S.size:Int) - 1 by omega] at this;exact this
   have s1:∀W:World,(Instr.slice 9 (.string S) none (some (.int .i64 ((S.size:Int) - 1))) none).run Tryz.prog W=.ok (.string (S.extract 0 (S.size - 1))) W:=fun W=>by
    rw[run_slice_string_h W 9 S Tryz.underlying9 .i64 ((S.size:Int) - 1) (by omega) (by omega),show ((S.size:Int) - 1).toNat=S.size - 1 by omega]
   have hst:=yU S hp;have hsp:=qy S;obtain⟨R,hR⟩:∃R,R=S.extract 0 (S.size - 1):=⟨_,rfl⟩;have hRs:R.size+1=S.size:=by rw[hR,Gh];omega
   obtain⟨b,hb⟩:∃b,b=bt S (S.size - 1):=⟨_,rfl⟩;rw[<-hb] at hix hst hsp;rw[<-hR] at s1 hst;have HST:=lH hst;have HSP:=lH hsp;have HRS:=lH hRs;clear hb hR hst hsp hRs h0;by_cases h1:b=32
   ·have HN:Hid (iS R=E):=(HST.out (Or.inl h1)).trans HSE.out
    subst h1;clear HST HSP;go_wp2_with fail
    go_round
    case rel=>exact⟨R,rfl,by have:=HRS.out;omega,HN.out⟩
    case measure=>have:=HRS.out;simp;omega
   ·have g1:(b==32)=false:=by rw[EJ];exact h1
    by_cases h2:b=9
    ·have HN:Hid (iS R=E):=(HST.out (Or.inr h2)).trans HSE.out
     subst h2;clear HST HSP h1;go_wp2_with fail
     go_round
     case rel=>exact⟨R,rfl,by have:=HRS.out;omega,HN.out⟩
     case measure=>have:=HRS.out;simp;omega
    ·have g2:(b==9)=false:=by rw[EJ];exact h2
     have HX:Hid (E=S):=HSE.out.symm.trans (HSP.out (Or.inr ⟨h1,h2⟩));clear HST HSP h1 h2 s1;go_wp2_with fail
     go_ret;rw[HX.out];exact⟨rfl,rfl⟩
end Go.Proofs.YthjbodpeckebiaaGreatDoor
/- Texts packed for one claim, 48 of 52: RfF RfF2. -/
import Derived.Test.YthjbodpeckebiaaGreatDoorMrsQ27
import Derived.Test.YthjbodpeckebiaaGreatDoorMrsQ4
import Derived.Deep.Cut
set_option maxRecDepth 100000
set_option maxHeartbeats 16000000
set_option linter.unusedSimpArgs false
set_option linter.unusedVariables false
-- RfF
namespace Go.Proofs.YthjbodpeckebiaaGreatDoor
open Go.RowKit
theorem mZ {c:UInt8} {n:Nat} (hn:n<256):(c.toNat:Int)=n↔c=UInt8.ofNat n:=by
 constructor
 ·intro h
  exact Fg.1 (by rw[UInt8.toNat_ofNat_of_lt' (by simpa using hn)];omega)
 ·intro h
  rw[h,UInt8.toNat_ofNat_of_lt' (by simpa using hn)]
theorem Ak {r:Int} (h0:0<=r) (h1:r<=255):decide (iL r<16)=cL r:=by
 unfold iL cL;rw[F6,EO,EO];split
 ·omega
 ·split
  ·omega
  ·split<;>omega
theorem ow (r:Int) (h0:0<=r) (h1:r<=255) (w:World):Calls Tryz.prog 129 #[.int .u8 r] w fun e w'=>e=.returned (.bool (cL r))/\w=w':=by
 have HV:=lH (dk r h0 h1 w);have HX:=lH (Ak h0 h1);rw[<-HX.out];obtain⟨v,hv⟩:∃v,v=iL r:=⟨_,rfl⟩;rw[<-hv] at HV ⊢;clear HX hv;go_enter Tryz.func129,Tryz.ntmps129
 go_wp2_with (go_at_call 130;refine HV.out.mono ?_;rintro e' w' ⟨rfl,rfl⟩)
 go_ret;exact⟨rfl,rfl⟩
def alI (c:Int):Bool:=decide (48<=c/\c<=57\/65<=c/\c<=90\/97<=c/\c<=122)
def Dz:ByteArray:=⟨#[45,46,95,126,33,36,38,39,40,41,42,43,44,59,61]⟩
def zH (a:Bool) (j:Nat) (x:Int):Bool:=a||(Dz.data.toList.take j).any fun b=>decide ((b.toNat:Int)=x)
theorem BJ (a:Bool) (x:Int):zH a 0 x=a:=by unfold zH;simp
theorem A9 (a:Bool) (j:Nat) (x:Int) (h:j<Dz.size):zH a (j+1) x=(zH a j x||decide (bt Dz j=x)):=by
 unfold zH;rw[E8 (by simpa using h),List.any_append,<-Bool.or_assoc];congr 1
 rw[aA Dz j h];simp;exact Iff.rfl
theorem CN (x:Int):zH (alI x) 15 x=bp x:=by
 have e:Dz.data.toList.take 15=[45,46,95,126,33,36,38,39,40,41,42,43,44,59,61]:=rfl;unfold zH bp alI eX;rw[e];congr 1
 rw[F6,EO];simp only[List.any_cons,List.any_nil,Bool.or_false,FU,EO,show ((45:UInt8).toNat:Int)=45 from rfl,show ((46:UInt8).toNat:Int)=46 from rfl,show ((95:UInt8).toNat:Int)=95 from rfl,show ((126:UInt8).toNat:Int)=126 from rfl,show ((33:UInt8).toNat:Int)=33 from rfl,show ((36:UInt8).toNat:Int)=36 from rfl,show ((38:UInt8).toNat:Int)=38 from rfl,show ((39:UInt8).toNat:Int)=39 from rfl,show ((40:UInt8).toNat:Int)=40 from rfl,show ((41:UInt8).toNat:Int)=41 from rfl,show ((42:UInt8).toNat:Int)=42 from rfl,show ((43:UInt8).toNat:Int)=43 from rfl,show ((44:UInt8).toNat:Int)=44 from rfl,show ((59:UInt8).toNat:Int)=59 from rfl,show ((61:UInt8).toNat:Int)=61 from rfl];constructor
 ·intro h;omega
 ·intro h;omega
theorem xY {l t:List UInt8} (h:l=91 :: t):aJ l=if jZ t=0 then 0 else if t[jZ t]? = some 93 then jZ t+2 else 0:=by rw[h];simp[aJ]
theorem xt {l:List UInt8} {c:UInt8} {t:List UInt8} (h:l=c :: t) (hc:c≠91):aJ l=(eR l).getD 0:=by rw[h];simp[aJ,hc]
theorem C7 {t:List UInt8}:eR (37 :: t)=match t with
 | a :: b :: r=>if us a=true/\us b=true then (eR r).map (·+3) else none
 | _=>none:=by
 rw[eR.eq_def];simp only;rw[if_pos trivial];cases t with
 | nil=>rfl
 | cons a t=>cases t<;>rfl
theorem CY {c:UInt8} {t:List UInt8} (hc:c≠37):eR (c :: t)=if eU c=true then (eR t).map (·+1) else some 0:=by
 rw[eR.eq_def];simp only;rw[if_neg hc]
theorem tH {A B:Option Nat} {a b c:Nat} (h:A=(B.map (·+a)).map (·+b)) (hc:c=b+a):A=B.map (·+c):=by
 rw[h,GM,hc];congr 1
 funext x
 simp;omega
theorem xK (s:ByteArray) (hz:s.size=0) (w:World):Calls Tryz.prog 102 #[.string s] w fun e w'=>e=.returned (.int .i64 (aJ s.data.toList))/\w=w':=by
 have hl:s.data.toList=[]:=EU (by simpa using hz);have HN:Hid (aJ s.data.toList=0):=by show _=_;rw[hl];rfl
 have h1:decide ((0:Int)<(s.size:Int))=false:=dF (by omega);have h1n:decide (0<s.size)=false:=dF (by omega);clear hl hz;go_enter Tryz.func102,Tryz.ntmps102
 go_wp2_with fail
 refine wp_loop_rounds 1 ?_;rw[rounds_succ];go_wp2_with fail
 go_ret;rw[HN.out];exact⟨rfl,rfl⟩
theorem zl (s:ByteArray) (hs:s.size<=1000000) {t:List UInt8} (h:s.data.toList=91 :: t) (w:World):Calls Tryz.prog 102 #[.string s] w fun e w'=>e=.returned (.int .i64 (aJ s.data.toList))/\w=w':=by
 have hsi:(s.size:Int)<=1000000:=by omega
 obtain⟨z0,hb0,ht⟩:=rP h;have hix0:=aj s 0 z0;rw[hb0] at hix0;have ix0:∀W:World,(Instr.index 9 (.string s) (.int .i64 0)).run Tryz.prog W=.ok (.int .u8 91) W:=hix0;have h1:decide ((0:Int)<(s.size:Int))=true:=dT (by omega);have h1n:decide (0<s.size)=true:=dT z0;have HN:=lH (xY h);have HT:=lH ht;have hsl:s.data.toList.length=s.size:=by simp
 have HSL:=lH hsl
 -- where the literal's octets end
 have HE:Hid (∀k:Nat,1<=k->k<=s.size->(∀j,1<=j->j<k->mQ (bt s j)=true)->(k=s.size\/(k<s.size/\mQ (bt s k)=false))->jZ t=k - 1):=fun k hk1 hk ha he=>by
  unfold jZ;rw[ht];have hd:(s.extract 1 s.size).data.toList=s.data.toList.drop 1:=de s 1;have hz:(s.extract 1 s.size).size=s.size - 1:=by simp
  rw[<-hd]
  have hb:∀j,j<s.size - 1->bt (s.extract 1 s.size) j=bt s (j+1):=fun j hj=>by
   obtain⟨c,hc,hdr⟩:=aL (s.extract 1 s.size) j (by omega);obtain⟨c2,hc2,hdr2⟩:=aL s (j+1) (by omega);rw[hd,Fb,GI 1 j,hdr2] at hdr;injection hdr with e1 _
   rw[hc,hc2,e1]
  refine jg (P:=mQ) (fun _=>rfl) (by omega) (fun j hj=>?_) ?_
  ·rw[hb j (by omega)];exact ha (j+1) (by omega) (by omega)
  ·rcases he with he|⟨he1,he2⟩
   ·left;omega
   ·right
    refine⟨by omega,?_⟩;rw[hb (k - 1) (by omega),show k - 1+1=k by omega];exact he2
 have HG:Hid (∀k:Nat,1<=k->t[k - 1]? = s.data.toList[k]?):=fun k hk=>by
  rw[ht,Gf];congr 1
  omega
 clear h hb0 ht hsl hix0;go_enter Tryz.func102,Tryz.ntmps102
 go_wp2_with fail
 go_loop [3] (fun u3=>∃k:Nat,1<=k/\k<=s.size/\u3=.int .i64 k/\∀j,1<=j->j<k->mQ (bt s j)=true) (fun u3=>s.size - (intOf u3).toNat)
 case atStart=>exact⟨1,nR _,z0,rfl,fun j h1 h2=>by omega⟩
 case round=>
  obtain⟨k,hk1,hk,rfl,hall⟩:=hrel;have HA:=lH hall;clear hall ix0;by_cases hlt:k<s.size
  ·have hkl:decide ((k:Int)<(s.size:Int))=true:=dT (by omega)
   have hix:=aj s k hlt;have hr:=bi s k;obtain⟨c,hc,hdr⟩:=aL s k hlt
   have hget:s.data.toList[k]? = some c:=by
    have:=FH List.head? hdr;rw[List.head?_drop] at this;exact this
   obtain⟨x,hx⟩:∃x,x=bt s k:=⟨_,rfl⟩;rw[<-hx] at hix hr hc;have HX:=lH hx;have HHX:=lH (fun W=>ow x hr.1 (by omega) W);have ne:((k:Int)==(s.size:Int))=false:=by rw[EJ];omega
   cases hli:mQ x with
   | true=>
     have HL:=lH hli
     have hor:cL x=true\/(cL x=false/\(x=58\/x=46)):=by
      unfold mQ at hli;rw[FU,EO] at hli;cases hh:cL x with
      | true=>exact Or.inl rfl
      | false=>rw[hh] at hli;rcases hli with h|h;exact absurd h (by decide);exact Or.inr ⟨rfl,h⟩
     clear hx hr hc hdr hget hli ne;rcases hor with hh|⟨hh,h58|h46⟩
     ·rw[hh] at HHX
      clear hh;go_wp2_with (go_at_call 129;refine(HHX.out _).mono ?_;rintro e' w' ⟨rfl,rfl⟩)
      go_round
      case rel=>exact⟨k+1,by omega,hlt,by go_num,fun j h1 h2=>by
       rcases FM j k with h|h
       ·exact HA.out j h1 h
       ·rw[show j=k by omega,<-HX.out];exact HL.out⟩
      case measure=>simp[intOf];omega
     ·rw[hh] at HHX
      have e58:(x==58)=true:=by rw[FA];exact h58
      clear hh h58;go_wp2_with (go_at_call 129;refine(HHX.out _).mono ?_;rintro e' w' ⟨rfl,rfl⟩)
      go_round
      case rel=>exact⟨k+1,by omega,hlt,by go_num,fun j h1 h2=>by
       rcases FM j k with h|h
       ·exact HA.out j h1 h
       ·rw[show j=k by omega,<-HX.out];exact HL.out⟩
      case measure=>simp[intOf];omega
     ·rw[hh] at HHX
      have e58:(x==58)=false:=by rw[EJ];omega
      have e46:(x==46)=true:=by rw[FA];exact h46
      clear hh h46;go_wp2_with (go_at_call 129;refine(HHX.out _).mono ?_;rintro e' w' ⟨rfl,rfl⟩)
      go_round
      case rel=>exact⟨k+1,by omega,hlt,by go_num,fun j h1 h2=>by
       rcases FM j k with h|h
       ·exact HA.out j h1 h
       ·rw[show j=k by omega,<-HX.out];exact HL.out⟩
      case measure=>simp[intOf];omega
   | false=>
     have hlN:=HE.out k hk1 hk HA.out (Or.inr ⟨hlt,by rw[<-hx];exact hli⟩);have hnn:=HN.out;rw[hlN] at hnn;have hh:cL x=false:=by unfold mQ at hli;rw[Gm] at hli;exact hli.1
     have hne:x≠58/\x≠46:=by
      unfold mQ at hli;rw[Gm,EP] at hli;omega
     have e58:(x==58)=false:=by rw[EJ];exact hne.1
     have e46:(x==46)=false:=by rw[EJ];exact hne.2
     rw[hh] at HHX;by_cases h1k:k=1
     ·have HZ:Hid (aJ s.data.toList=0):=by show _=_;rw[hnn,if_pos (by omega)]
      have o1:((k:Int)==1)=true:=by rw[FA];omega
      clear hx hr hc hdr hget hli hlN hnn hh hne h1k;go_wp2_with (go_at_call 129;refine(HHX.out _).mono ?_;rintro e' w' ⟨rfl,rfl⟩)
      go_ret;rw[HZ.out];exact⟨rfl,rfl⟩
     ·have o1:((k:Int)==1)=false:=by rw[EJ];omega
      rw[if_neg (by omega),HG.out k hk1,hget] at hnn;by_cases h93:x=93
      ·have hc93:c=93:=(mZ (n:=93) (by decide)).1 (by omega)
       have HZ:Hid (aJ s.data.toList=k+1):=by show _=_;rw[hnn,if_pos (by rw[hc93])];omega
       have e93:(x != 93)=false:=by rw[h93];rfl
       clear hx hr hc hdr hget hli hlN hnn hh hne h1k h93 hc93;go_wp2_with (go_at_call 129;refine(HHX.out _).mono ?_;rintro e' w' ⟨rfl,rfl⟩)
       go_ret;rw[HZ.out];exact⟨rfl,rfl⟩
      ·have HZ:Hid (aJ s.data.toList=0):=by show _=_;rw[hnn,if_neg (fun e=>h93 (by injection e with e;rw[hc,e];rfl))]
       have e93:(x != 93)=true:=by rw[FP];exact h93
       have e93b:(x==93)=false:=by rw[EJ];exact h93
       clear hx hr hc hdr hget hli hlN hnn hh hne h1k h93;go_wp2_with (go_at_call 129;refine(HHX.out _).mono ?_;rintro e' w' ⟨rfl,rfl⟩)
       go_ret;rw[HZ.out];exact⟨rfl,rfl⟩
  ·have hkl:decide ((k:Int)<(s.size:Int))=false:=dF (by omega)
   have ne:((k:Int)==(s.size:Int))=true:=by rw[FA];omega
   have HZ:Hid (aJ s.data.toList=0):=by
    show _=_;have hlN:=HE.out k hk1 hk HA.out (Or.inl (by omega));rw[HN.out,hlN,HG.out k hk1,FO (by have:=HSL.out;omega)];simp
   by_cases h1k:k=1
   ·have o1:((k:Int)==1)=true:=by rw[FA];omega
    clear h1k;go_wp2_with fail
    go_ret;rw[HZ.out];exact⟨rfl,rfl⟩
   ·have o1:((k:Int)==1)=false:=by rw[EJ];omega
    clear h1k;go_wp2_with fail
    go_ret;rw[HZ.out];exact⟨rfl,rfl⟩
end Go.Proofs.YthjbodpeckebiaaGreatDoor
-- RfF2
namespace Go.Proofs.YthjbodpeckebiaaGreatDoor
open Go.RowKit
theorem Be (j:Nat) (h:j<15):∀W:World,(Instr.index 9 (.string ⟨#[45,46,95,126,33,36,38,39,40,41,42,43,44,59,61]⟩) (.int .i64 (j:Int))).run Tryz.prog W=.ok (.int .u8 (bt Dz j)) W:=aj Dz j h
theorem xM (s:ByteArray) (hs:s.size<=1000000) {c0:UInt8} {t0:List UInt8} (h:s.data.toList=c0 :: t0) (hc0:c0≠91) (w:World):Calls Tryz.prog 102 #[.string s] w fun e w'=>e=.returned (.int .i64 (aJ s.data.toList))/\w=w':=by
 have hsi:(s.size:Int)<=1000000:=by omega
 obtain⟨z0,hb0,ht⟩:=rP h;have ix0:=aj s 0 z0;rw[hb0] at ix0;obtain⟨x0,hx0⟩:∃x:Int,x=(c0.toNat:Int):=⟨_,rfl⟩;rw[<-hx0] at ix0;have ix0:∀W:World,(Instr.index 9 (.string s) (.int .i64 0)).run Tryz.prog W=.ok (.int .u8 x0) W:=ix0;have e91:(x0==91)=false:=by rw[EJ];exact fun e=>hc0 ((mZ (n:=91) (by decide)).1 (by omega))
 have h1:decide ((0:Int)<(s.size:Int))=true:=dT (by omega);have h1n:decide (0<s.size)=true:=dT z0;have HN:=lH (xt h hc0);have hsl:s.data.toList.length=s.size:=by simp
 have HSL:=lH hsl;obtain⟨A,hA⟩:∃A,A=eR s.data.toList:=⟨_,rfl⟩;rw[<-hA] at HN;have HA:=lH hA;clear h hb0 ht hsl hc0 hx0 hA;go_enter Tryz.func102,Tryz.ntmps102
 go_wp2_with fail
 go_loop [3] (fun u3=>∃k:Nat,k<=s.size/\u3=.int .i64 k/\A=(eR (s.data.toList.drop k)).map (·+k)) (fun u3=>s.size - (intOf u3).toNat)
 case atStart=>exact⟨0,EN _,rfl,by rw[HA.out,Ff];simp⟩
 case round=>
  obtain⟨k,hk,rfl,hq⟩:=hrel;have HQ:=lH hq;clear hq ix0 e91;by_cases hlt:k<s.size
  ·have hkl:decide ((k:Int)<(s.size:Int))=true:=dT (by omega)
   have hix:=aj s k hlt;have hr:=bi s k;obtain⟨c,hc,hdr⟩:=aL s k hlt;obtain⟨x,hx⟩:∃x,x=bt s k:=⟨_,rfl⟩;rw[<-hx] at hix hr hc;have hr0:=hr.1;have hr1:=hr.2;have hq:=HQ.out;rw[hdr] at hq;by_cases h37:x=37
   ·have hc37:c=37:=(mZ (n:=37) (by decide)).1 (by omega)
    rw[hc37,C7] at hq;subst h37;by_cases hend:k+2<s.size
    ·obtain⟨a,ha,hda⟩:=aL s (k+1) (by omega)
     obtain⟨b,hb,hdb⟩:=aL s (k+2) hend;rw[hda,hdb] at hq;simp only at hq
     have hixa:∀W:World,(Instr.index 9 (.string s) (.int .i64 ((k:Int)+1))).run Tryz.prog W=.ok (.int .u8 (bt s (k+1))) W:=fun W=>by
      have h:=aj s (k+1) (by omega) W;rw[show ((k+1:Nat):Int)=(k:Int)+1 by omega] at h;exact h
     have hixb:∀W:World,(Instr.index 9 (.string s) (.int .i64 ((k:Int)+2))).run Tryz.prog W=.ok (.int .u8 (bt s (k+2))) W:=fun W=>by
      have h:=aj s (k+2) hend W;rw[show ((k+2:Nat):Int)=(k:Int)+2 by omega] at h;exact h
     have hra:=bi s (k+1);have hrb:=bi s (k+2);obtain⟨y,hy⟩:∃y,y=bt s (k+1):=⟨_,rfl⟩;obtain⟨z,hz⟩:∃z,z=bt s (k+2):=⟨_,rfl⟩;rw[<-hy] at hixa hra ha;rw[<-hz] at hixb hrb hb;have HHY:=lH (fun W=>ow y hra.1 (by omega) W);have HHZ:=lH (fun W=>ow z hrb.1 (by omega) W);have o1:decide ((s.size:Int)<=(k:Int)+2)=false:=dF (by omega);have eA:us a=cL y:=by unfold us;rw[ha]
     have eB:us b=cL z:=by unfold us;rw[hb]
     rw[eA,eB] at hq;cases hhy:cL y with
     | false=>
       rw[hhy] at HHY hq;rw[if_neg (by rintro ⟨h,_⟩;cases h)] at hq;have HZ:Hid (aJ s.data.toList=0):=by show _=_;rw[HN.out,hq];rfl
       clear hq hx hr hc hdr hc37 hda hdb hra hrb ha hb hy hz eA eB hhy;go_wp2_with (go_at_call 129;refine(HHY.out _).mono ?_;rintro e' w' ⟨rfl,rfl⟩)
       go_ret;rw[HZ.out];exact⟨rfl,rfl⟩
     | true=>
       rw[hhy] at HHY hq;cases hhz:cL z with
       | false=>
         rw[hhz] at HHZ hq;rw[if_neg (by rintro ⟨_,h⟩;cases h)] at hq;have HZ:Hid (aJ s.data.toList=0):=by show _=_;rw[HN.out,hq];rfl
         clear hq hx hr hc hdr hc37 hda hdb hra hrb ha hb hy hz eA eB hhy hhz;go_wp2_with fail
         refine(HHY.out _).mono ?_;rintro e' w' ⟨rfl,rfl⟩;go_wp2_with fail
         refine(HHZ.out _).mono ?_;rintro e' w' ⟨rfl,rfl⟩;go_wp2_with fail
         go_ret;rw[HZ.out];exact⟨rfl,rfl⟩
       | true=>
         rw[hhz] at HHZ hq;rw[if_pos ⟨rfl,rfl⟩] at hq;have HZ:Hid (A=(eR (s.data.toList.drop (k+3))).map (·+(k+3))):=by show A=_;exact tH hq rfl
         clear hq hx hr hc hdr hc37 hda hdb hra hrb ha hb hy hz eA eB hhy hhz;go_wp2_with fail
         refine(HHY.out _).mono ?_;rintro e' w' ⟨rfl,rfl⟩;go_wp2_with fail
         refine(HHZ.out _).mono ?_;rintro e' w' ⟨rfl,rfl⟩;go_wp2_with fail
         go_round
         case rel=>exact⟨k+3,by omega,by go_num,HZ.out⟩
         case measure=>simp[intOf];omega
    ·have o1:decide ((s.size:Int)<=(k:Int)+2)=true:=dT (by omega)
     have HZ:Hid (aJ s.data.toList=0):=by
      show _=_;have hlen:(s.data.toList.drop (k+1)).length<=1:=by rw[ES];have:=HSL.out;omega
      rw[HN.out];match hd:s.data.toList.drop (k+1) with
      | []=>rw[hd] at hq;simp only at hq;rw[hq];rfl
      | [p]=>rw[hd] at hq;simp only at hq;rw[hq];rfl
      | p :: q :: r=>rw[hd] at hlen;simp at hlen
     clear hq hx hr hc hdr hc37 hend;go_wp2_with fail
     go_ret;rw[HZ.out];exact⟨rfl,rfl⟩
   ·have x37:(x==37)=false:=by rw[EJ];exact h37
    rw[CY (fun e=>h37 (by rw[hc,e];rfl))] at hq;have epl:eU c=bp x:=by unfold eU;rw[hc]
    rw[epl] at hq;obtain⟨al,hal⟩:∃al,al=alI x:=⟨_,rfl⟩;have HAL:=lH hal;have hsg:zH al 15 x=bp x:=by rw[hal];exact CN x
    have HSG:=lH hsg;have HQP:=lH hq
    have hcase:(x<48/\al=false)\/(48<=x/\x<=57/\al=true)\/(57<x/\x<65/\al=false)\/(65<=x/\x<=90/\al=true)\/(90<x/\x<97/\al=false)\/(97<=x/\x<=122/\al=true)\/(122<x/\al=false):=by
     rw[hal];unfold alI;simp only[EO,EP];omega
    clear hq hx hr hc hdr h37 epl hal hsg;rcases hcase with ⟨g1,gal⟩|⟨g1,g2,gal⟩|⟨g1,g2,gal⟩|⟨g1,g2,gal⟩|⟨g1,g2,gal⟩|⟨g1,g2,gal⟩|⟨g1,gal⟩
    all_goals
     have GAL:=lH gal;clear gal;first|(have q1:decide (48<=x)=true:=dT (by omega))|(have q1:decide (48<=x)=false:=dF (by omega))
     first|(have q2:decide (x<=57)=true:=dT (by omega))|(have q2:decide (x<=57)=false:=dF (by omega))
     first|(have q3:decide (65<=x)=true:=dT (by omega))|(have q3:decide (65<=x)=false:=dF (by omega))
     first|(have q4:decide (x<=90)=true:=dT (by omega))|(have q4:decide (x<=90)=false:=dF (by omega))
     first|(have q5:decide (97<=x)=true:=dT (by omega))|(have q5:decide (97<=x)=false:=dF (by omega))
     first|(have q6:decide (x<=122)=true:=dT (by omega))|(have q6:decide (x<=122)=false:=dF (by omega))
     go_wp2_with fail
     go_loop [5,7] (fun u5 u7=>∃(j:Nat) (b:Bool),j<=15/\u7=.int .i64 j/\u5=.bool b/\b=zH al j x) (fun _ u7=>15 - (intOf u7).toNat)
     case atStart=>exact⟨0,_,EN _,rfl,rfl,by rw[BJ,GAL.out]⟩
     case round=>
      obtain⟨j,b,hj,rfl,rfl,hbe⟩:=hrel;have HBE:=lH hbe;clear hbe;by_cases hjl:j<15
      ·have hjd:decide ((j:Int)<15)=true:=dT (by omega)
       have hjd2:decide (j<15)=true:=dT hjl;have hixs:=Be j hjl;have HS:=lH (A9 al j x hjl);obtain⟨y,hy⟩:∃y,y=bt Dz j:=⟨_,rfl⟩;rw[<-hy] at hixs HS;cases b with
       | true=>
         have HR:Hid (true=zH al (j+1) x):=by show true=_;rw[HS.out,<-HBE.out];rfl
         clear hy;go_wp2_with fail
         go_round
         case rel=>exact⟨j+1,true,hjl,by go_num,rfl,HR.out⟩
         case measure=>simp[intOf];omega
       | false=>
         by_cases hyx:y=x
         ·have e1:(y==x)=true:=by rw[FA];exact hyx
          have HR:Hid (true=zH al (j+1) x):=by show true=_;rw[HS.out,<-HBE.out,dT hyx];rfl
          clear hy hyx;go_wp2_with fail
          go_round
          case rel=>exact⟨j+1,true,hjl,by go_num,rfl,HR.out⟩
          case measure=>simp[intOf];omega
         ·have e1:(y==x)=false:=by rw[EJ];exact hyx
          have HR:Hid (false=zH al (j+1) x):=by show false=_;rw[HS.out,<-HBE.out,dF hyx];rfl
          clear hy hyx;go_wp2_with fail
          go_round
          case rel=>exact⟨j+1,false,hjl,by go_num,rfl,HR.out⟩
          case measure=>simp[intOf];omega
      ·have hjd:decide ((j:Int)<15)=false:=dF (by omega)
       have hjd2:decide (j<15)=false:=dF hjl;have hj15:j=15:=by omega
       have hpl:bp x=b:=by rw[HBE.out,hj15];exact HSG.out.symm
       have hqq:=HQP.out;rw[hpl] at hqq;clear hj15 hpl;cases b with
       | true=>
         have HZ:Hid (A=(eR (s.data.toList.drop (k+1))).map (·+(k+1))):=by
          show A=_;rw[if_pos rfl] at hqq;exact tH hqq rfl
         clear hqq;go_wp2_with fail
         go_round
         case rel=>exact⟨k+1,hlt,by go_num,HZ.out⟩
         case measure=>simp[intOf];omega
       | false=>
         have HZ:Hid (aJ s.data.toList=k):=by
          show _=_;rw[if_neg (by decide)] at hqq;rw[HN.out,hqq];simp
         clear hqq;go_wp2_with fail
         go_ret;rw[HZ.out];exact⟨rfl,rfl⟩
  ·have hkl:decide ((k:Int)<(s.size:Int))=false:=dF (by omega)
   have HZ:Hid (aJ s.data.toList=k):=by
    show _=_;have h:=HQ.out;rw[E6 (by have:=HSL.out;omega)] at h;rw[HN.out,h];simp[eR]
   go_wp2_with fail
   go_ret;rw[HZ.out];exact⟨rfl,rfl⟩
theorem zo (s:ByteArray) (hs:s.size<=1000000) (w:World):Calls Tryz.prog 102 #[.string s] w fun e w'=>e=.returned (.int .i64 (aJ s.data.toList))/\w=w':=by
 cases h:s.data.toList with
 | nil=>
   have:=xK s (by have h1:=FH List.length h;simpa using h1) w;rw[h] at this;exact this
 | cons c t=>
   rw[<-h];by_cases hc:c=91
   ·subst hc
    exact zl s hs h w
   ·exact xM s hs h hc w
theorem Ap (l:List UInt8):aJ l<=l.length:=by
 by_cases h:aJ l=0
 ·omega
 ·exact(jW rfl h).1
theorem pd (s:ByteArray) (hs:s.size<=1000000) (w:World):Calls Tryz.prog 84 #[.string s] w fun e w'=>∃n:ByteArray,e=.returned (.tuple #[.string n,.int .i64 (eY s.data.toList).2.1,.int .i64 (eY s.data.toList).2.2])/\w=w':=by
 have hsi:(s.size:Int)<=1000000:=by omega
 have hsl:s.data.toList.length=s.size:=by simp
 obtain⟨V,hV⟩:∃V,V=eY s.data.toList:=⟨_,rfl⟩;rw[<-hV];unfold eY at hV;cases hE:s.toList.isEmpty with
 | true=>
   have hE2:s.data.toList.isEmpty=true:=by rw[<-ah];exact hE
   rw[if_pos hE2] at hV;have HV:=lH hV;clear hV hE2 hsl;go_enter Tryz.func84,Tryz.ntmps84
   go_wp2_with fail
   go_ret3
   rw[HV.out];exact⟨_,rfl,rfl⟩
 | false=>
   have hE2:s.data.toList.isEmpty=false:=by rw[<-ah];exact hE
   rw[if_neg (by rw[hE2];decide)] at hV;have HN:=lH (zo s hs);have hn:=Ap s.data.toList;obtain⟨n,hne⟩:∃n,n=aJ s.data.toList:=⟨_,rfl⟩;rw[<-hne] at HN hn hV;rw[hsl] at hn hV;by_cases h0:n=0
   ·rw[if_pos h0] at hV
    have HV:=lH hV;have e0:((n:Int)==0)=true:=by rw[FA];omega
    clear hV hE2 hsl h0 hne hn;go_enter Tryz.func84,Tryz.ntmps84
    go_wp2_with fail
    refine(HN.out _).mono ?_;rintro x1 w1 ⟨rfl,rfl⟩;go_wp2_with fail
    go_ret3
    rw[HV.out];exact⟨_,rfl,rfl⟩
   ·rw[if_neg h0] at hV
    have e0:((n:Int)==0)=false:=by rw[EJ];omega
    by_cases h1:n=s.size
    ·rw[if_pos h1] at hV
     have HV:=lH hV;have e1:((n:Int)==(s.size:Int))=true:=by rw[FA];omega
     clear hV hE2 hsl h0 hne hn h1;go_enter Tryz.func84,Tryz.ntmps84
     go_wp2_with fail
     refine(HN.out _).mono ?_;rintro x1 w1 ⟨rfl,rfl⟩;go_wp2_with fail
     go_ret3
     rw[HV.out];exact⟨_,rfl,rfl⟩
    ·rw[if_neg h1] at hV
     have e1:((n:Int)==(s.size:Int))=false:=by rw[EJ];omega
     have hlt:n<s.size:=by omega
     have hni:(n:Int)<=1000000:=by omega
     have hni0:(0:Int)<=(n:Int):=by omega
     have hnis:(n:Int)<(s.size:Int):=by omega
     have hix:=aj s n hlt;obtain⟨c,hc,hdr⟩:=aL s n hlt
     have hget:s.data.toList[n]? = some c:=by
      have:=FH List.head? hdr;rw[List.head?_drop] at this;exact this
     rw[hget] at hV;obtain⟨x,hx⟩:∃x,x=bt s n:=⟨_,rfl⟩;rw[<-hx] at hix hc;by_cases h58:x=58
     ·have hc58:c=58:=(mZ (n:=58) (by decide)).1 (by omega)
      rw[if_neg (by rw[hc58];simp)] at hV;have x58:(x != 58)=false:=by rw[h58];rfl
      obtain⟨S1,hS1,hz1,hsl1'⟩:=av s (n+1) (by omega)
      have hsl1:∀W:World,(Instr.slice 9 (.string s) (some (.int .i64 ((n:Int)+1))) none none).run Tryz.prog W=.ok (.string S1) W:=fun W=>by
       have h:=hsl1' W;rw[show ((n+1:Nat):Int)=(n:Int)+1 by omega] at h;exact h
      rw[<-hS1] at hV;obtain⟨S2,hS2,hz2,hsl2⟩:=gw s n (by omega);obtain⟨q,hq⟩:∃q,q=am S1.data.toList 10 65535:=⟨_,rfl⟩;rw[<-hq] at hV;obtain⟨q1,q2⟩:=q;have HNU:=lH (fun W=>lY S1 (by omega) 65535 (by decide) (by decide) q1 q2 hq.symm W);dsimp only at hV
      clear hE2 hsl h0 hne hn h1 hget hdr hc58 hc hx hS1 hz1 hsl1' hS2 hz2 hq h58;by_cases h5:q2=5
      ·rw[if_pos h5] at hV
       have HV:=lH hV;subst h5;clear hV;go_enter Tryz.func84,Tryz.ntmps84
       go_wp2_with fail
       refine(HN.out _).mono ?_;rintro x1 w1 ⟨rfl,rfl⟩;go_wp2_with fail
       refine(HNU.out _).mono ?_;rintro x2 w2 ⟨rfl,rfl⟩;go_wp2_with fail
       go_ret3
       rw[HV.out];exact⟨_,rfl,rfl⟩
      ·rw[if_neg h5] at hV
       have y5:(q2==5)=false:=by rw[EJ];exact h5
       by_cases hz:q2=0
       ·rw[if_neg (by simpa using hz)] at hV
        have HV:=lH hV;subst hz;clear hV h5;go_enter Tryz.func84,Tryz.ntmps84
        go_wp2_with fail
        refine(HN.out _).mono ?_;rintro x1 w1 ⟨rfl,rfl⟩;go_wp2_with fail
        refine(HNU.out _).mono ?_;rintro x2 w2 ⟨rfl,rfl⟩;go_wp2_with fail
        go_ret3
        rw[HV.out];exact⟨_,rfl,rfl⟩
       ·rw[if_pos hz] at hV
        have HV:=lH hV;have y0:(q2 != 0)=true:=by rw[FP];exact hz
        have y0b:(q2==0)=false:=by rw[EJ];exact hz
        clear hV h5 hz;go_enter Tryz.func84,Tryz.ntmps84
        go_wp2_with fail
        refine(HN.out _).mono ?_;rintro x1 w1 ⟨rfl,rfl⟩;go_wp2_with fail
        refine(HNU.out _).mono ?_;rintro x2 w2 ⟨rfl,rfl⟩;go_wp2_with fail
        go_ret3
        rw[HV.out];exact⟨_,rfl,rfl⟩
     ·rw[if_pos (fun e=>h58 (by injection e with e;rw[hc,e];rfl))] at hV
      have HV:=lH hV;have x58:(x != 58)=true:=by rw[FP];exact h58
      have x58b:(x==58)=false:=by rw[EJ];exact h58
      clear hV hE2 hsl h0 hne hn h1 hget hdr hc hx h58;go_enter Tryz.func84,Tryz.ntmps84
      go_wp2_with fail
      refine(HN.out _).mono ?_;rintro x1 w1 ⟨rfl,rfl⟩;go_wp2_with fail
      go_ret3
      rw[HV.out];exact⟨_,rfl,rfl⟩
end Go.Proofs.YthjbodpeckebiaaGreatDoor
/- Texts packed for one claim, 4 of 52: Start Number Trim StartB StartC NumberW PrP LsP LsW HostP NumR NumH. -/
import Derived.Test.YthjbodpeckebiaaGreatDoorMrsQ3
import Derived.Test.YthjbodpeckebiaaGreatDoorMrsShelf
import Derived.Deep.QuietTactic
import Derived.BigQuiet
import Derived.Test.YthjbodpeckebiaaGreatDoorMrsQ2
set_option maxRecDepth 100000
set_option maxHeartbeats 16000000
set_option linter.unusedSimpArgs false
set_option linter.unusedVariables false
-- Start
namespace Go.Proofs.YthjbodpeckebiaaGreatDoor
open Go.RowKit
def cK (r:Int):Bool:=decide (48<=r/\r<=57)
def bt (s:ByteArray) (i:Nat):Int:=if h:i<s.size then ((s[i]'h).toNat:Int) else 0
def cS (s:ByteArray):Bool:=decide (s.size=8)&&(Lib.hasPrefix s.data.toList [72,84,84,80,47]&&(cK (bt s 5)&&(decide (bt s 6=46)&&cK (bt s 7))))
def bw (s:ByteArray):Int×Int:=if cS s=false then (0,3) else if bt s 5=49 then (if bt s 7=48 then (0,0) else (1,0)) else (0,9)
theorem bi (s:ByteArray) (i:Nat):0<=bt s i/\bt s i<=255:=by
 unfold bt;split
 ·rename_i h
  have:=(s[i]'h).toNat_lt;omega
 ·omega
theorem aj (s:ByteArray) (i:Nat) (h:i<s.size) (W:World):(Instr.index 9 (.string s) (.int .i64 (i:Int))).run Tryz.prog W=.ok (.int .u8 (bt s i)) W:=by
 have h1:=run_index_string (P:=Tryz.prog) (w:=W) 9 s .i64 (i:Int) Tryz.underlying9;have h2:0<=(i:Int)/\(i:Int)<s.size:=by omega
 rw[dif_pos h2] at h1;rw[h1];unfold bt;rw[dif_pos h];rfl
theorem iA {r:Int} (h:r<48\/57<r):cK r=false:=by unfold cK;rw[EP];omega
theorem qB {r:Int} (h:48<=r) (h':r<=57):cK r=true:=by unfold cK;rw[EO];exact⟨h,h'⟩
theorem wA (r:Int) (h0:0<=r) (h1:r<=255) (w:World):Calls Tryz.prog 206 #[.int .u8 r] w fun e w'=>e=.returned (.bool (cK r))/\w=w':=by
 rcases (by omega:r<48\/(48<=r/\r<=57)\/57<r) with h|⟨h,h'⟩|h
 ·have HV:=lH (iA (.inl h))
  go_enter Tryz.func206,Tryz.ntmps206
  go_wp2_with fail
  go_ret;rw[HV.out];exact⟨rfl,rfl⟩
 ·have HV:=lH (qB h h')
  go_enter Tryz.func206,Tryz.ntmps206
  go_wp2_with fail
  go_ret;rw[HV.out];exact⟨rfl,rfl⟩
 ·have HV:=lH (iA (.inr h))
  have hd:decide (r<=57)=false:=by rw[EP];omega
  go_enter Tryz.func206,Tryz.ntmps206
  go_wp2_with fail
  go_ret;rw[HV.out];exact⟨rfl,rfl⟩
theorem rE (r:Int) (h0:0<=r) (h1:r<=255) (w:World):Calls Tryz.prog 124 #[.int .u8 r] w fun e w'=>e=.returned (.bool (cK r))/\w=w':=by
 rcases (by omega:r<48\/(48<=r/\r<=57)\/57<r) with h|⟨h,h'⟩|h
 ·have HV:=lH (iA (.inl h))
  go_enter Tryz.func124,Tryz.ntmps124
  go_wp2_with fail
  go_ret;rw[HV.out];exact⟨rfl,rfl⟩
 ·have HV:=lH (qB h h')
  go_enter Tryz.func124,Tryz.ntmps124
  go_wp2_with fail
  go_ret;rw[HV.out];exact⟨rfl,rfl⟩
 ·have HV:=lH (iA (.inr h))
  have hd:decide (r<=57)=false:=by rw[EP];omega
  go_enter Tryz.func124,Tryz.ntmps124
  go_wp2_with fail
  go_ret;rw[HV.out];exact⟨rfl,rfl⟩
theorem qx (s:ByteArray) (h:s.size≠8):cS s=false:=by unfold cS;rw[dF h];rfl
theorem pF (s:ByteArray) (h:s.size=8) {p d e f:Bool} (hp:Lib.hasPrefix s.data.toList [72,84,84,80,47]=p) (hd:cK (bt s 5)=d) (he:decide (bt s 6=46)=e) (hf:cK (bt s 7)=f):cS s=(p&&(d&&(e&&f))):=by
 unfold cS;rw[dT h,hp,hd,he,hf];rfl
theorem zE (s:ByteArray) {p:Bool} (hp:Lib.hasPrefix s.data.toList [72,84,84,80,47]=p) (w:World):Calls Tryz.prog 205 #[.string s,.string ⟨#[72,84,84,80,47]⟩] w fun e w'=>e=.returned (.bool p)/\w=w':=by
 subst hp;exact(Tryz.strings_HasPrefix s ⟨#[72,84,84,80,47]⟩ w).mono fun _ _ ⟨a,b⟩=>⟨a,b.symm⟩
theorem rc {r:Int} {d:Bool} (hd:cK r=d) (h:0<=r/\r<=255) (w:World):Calls Tryz.prog 206 #[.int .u8 r] w fun e w'=>e=.returned (.bool d)/\w=w':=by
 subst hd;exact wA r h.1 h.2 w
theorem cI {r:Int} {d:Bool} (hd:cK r=d) (h:0<=r/\r<=255) (w:World):Calls Tryz.prog 124 #[.int .u8 r] w fun e w'=>e=.returned (.bool d)/\w=w':=by
 subst hd;exact rE r h.1 h.2 w
theorem uY (s:ByteArray) (hs:s.size<=9223372036854775807) (w:World):Calls Tryz.prog 168 #[.string s] w fun e w'=>e=.returned (.bool (cS s))/\w=w':=by
 by_cases h8:s.size=8
 ·obtain⟨p,hp⟩:∃p,Lib.hasPrefix s.data.toList [72,84,84,80,47]=p:=⟨_,rfl⟩
  obtain⟨d,hd⟩:∃d,cK (bt s 5)=d:=⟨_,rfl⟩;obtain⟨e,he⟩:∃e,decide (bt s 6=46)=e:=⟨_,rfl⟩;obtain⟨f,hf⟩:∃f,cK (bt s 7)=f:=⟨_,rfl⟩;have HV:=lH (pF s h8 hp hd he hf);have i5:∀W:World,(Instr.index 9 (.string s) (.int .i64 5)).run Tryz.prog W=.ok (.int .u8 (bt s 5)) W:=aj s 5 (by omega);have i6:∀W:World,(Instr.index 9 (.string s) (.int .i64 6)).run Tryz.prog W=.ok (.int .u8 (bt s 6)) W:=aj s 6 (by omega);have i7:∀W:World,(Instr.index 9 (.string s) (.int .i64 7)).run Tryz.prog W=.ok (.int .u8 (bt s 7)) W:=aj s 7 (by omega);have r5:=lH (bi s 5);have r7:=lH (bi s 7);obtain⟨b5,hb5⟩:∃b,b=bt s 5:=⟨_,rfl⟩;obtain⟨b6,hb6⟩:∃b,b=bt s 6:=⟨_,rfl⟩;obtain⟨b7,hb7⟩:∃b,b=bt s 7:=⟨_,rfl⟩;rw[<-hb5] at i5 hd r5;rw[<-hb6] at i6 he;rw[<-hb7] at i7 hf r7;have he':(b6==46)=e:=he;have HP:=lH hp;have HD:=lH hd;have HF:=lH hf;clear hp hd hf hb5 hb6 hb7;have h8i:(s.size:Int)=8:=by omega
  have h5:p=false\/(p=true/\d=false)\/(p=true/\d=true/\e=false)\/(p=true/\d=true/\e=true/\f=false)\/(p=true/\d=true/\e=true/\f=true):=by cases p<;>cases d<;>cases e<;>cases f<;>simp
  rcases h5 with rfl|⟨rfl,rfl⟩|⟨rfl,rfl,rfl⟩|⟨rfl,rfl,rfl,rfl⟩|⟨rfl,rfl,rfl,rfl⟩
  all_goals
   go_enter Tryz.func168,Tryz.ntmps168
   go_wp2_with (first
    | (go_at_call 205;refine(zE s HP.out _).mono ?_;rintro e' w' ⟨rfl,rfl⟩)
    | (go_at_call 206;first|(refine(rc HD.out r5.out _).mono ?_;rintro e' w' ⟨rfl,rfl⟩)|(refine(rc HF.out r7.out _).mono ?_;rintro e' w' ⟨rfl,rfl⟩)))
   go_ret;rw[HV.out];exact⟨rfl,rfl⟩
 ·have HV:=lH (qx s h8)
  have h8i:¬((s.size:Int)=8):=by omega
  go_enter Tryz.func168,Tryz.ntmps168
  go_wp2_with fail
  go_ret;rw[HV.out];exact⟨rfl,rfl⟩
end Go.Proofs.YthjbodpeckebiaaGreatDoor
-- Number
namespace Go.Proofs.YthjbodpeckebiaaGreatDoor
open Go.RowKit
theorem ed (r:Int) (h0:48<=r) (h1:r<=57) (w:World):Calls Tryz.prog 130 #[.int .u8 r] w fun e w'=>e=.returned (.int .i64 (r - 48))/\w=w':=by
 go_enter Tryz.func130,Tryz.ntmps130
 go_wp2_with fail
 go_ret;exact⟨rfl,rfl⟩
def jE (s:ByteArray):Prop:=∀k,k<s.size->48<=bt s k/\bt s k<=57
theorem aA (s:ByteArray) (k:Nat) (h:k<s.size):bt s k=((s[k]'h).toNat:Int):=by unfold bt;rw[dif_pos h]
theorem sD {r:Int} (h:48<=r) (h':r<=57):az r=r - 48:=by unfold az;rw[if_pos ⟨h,h'⟩]
theorem cW (s:ByteArray) (k:Nat) (h:k<s.size) (hd:jE s):aZ 10 (s.data.toList.take (k+1))=aZ 10 (s.data.toList.take k)*10+(bt s k - 48):=by
 have:=hd k h;rw[eI s k h,js,<-aA s k h,sD this.1 this.2]
theorem dM (s:ByteArray) (hd:jE s):∀k:Nat,k<=s.size->0<=aZ 10 (s.data.toList.take k)/\aZ 10 (s.data.toList.take k)<((10 ^ k:Nat):Int)
 | 0,_=>by rw[FG];exact⟨Gv _,by decide⟩
 | k+1,h=>by
   have h1:=dM s hd k (by omega);have h2:=hd k (by omega);rw[cW s k (by omega) hd,Nat.pow_succ];omega
theorem ni (s:ByteArray) (hd:jE s) (k:Nat) (h:k<=s.size) (h17:k<=17):0<=aZ 10 (s.data.toList.take k)/\aZ 10 (s.data.toList.take k)<100000000000000000:=by
 have h1:=dM s hd k h;have h2:10 ^ k<=10 ^ 17:=GQ (by decide) h17;have h3:(10:Nat) ^ 17=100000000000000000:=by decide
 omega
theorem jn (s:ByteArray):(s.extract 1 s.size).data.toList=s.data.toList.drop 1:=by
 rw[Lib.extract_data,Fh (by rw[ES];simp)]
theorem dp (s:ByteArray):(s.extract 1 s.size).size=s.size - 1:=by simp
theorem xf (s:ByteArray) (k:Nat) (h:k+1<s.size):bt (s.extract 1 s.size) k=bt s (k+1):=by
 rw[aA _ k (by rw[dp];omega),aA s (k+1) h];have h1:(s.extract 1 s.size).data.toList[k]? = s.data.toList[k+1]?:=by rw[jn,Gf,GI]
 rw[EM (by rw[jn,ES];simp;omega),EM (by simpa using h)] at h1;have h2:=Gs h1;exact FH (fun b:UInt8=>(b.toNat:Int)) h2
theorem pK {s:ByteArray} (hd:jE s):jE (s.extract 1 s.size):=fun k h=>by
 rw[dp] at h;rw[xf s k (by omega)];exact hd (k+1) (by omega)
theorem sH {s:ByteArray} (h:0<s.size) (h0:bt s 0=48):aZ 10 (s.extract 1 s.size).data.toList=aZ 10 s.data.toList:=by
 rw[jn];have hb:((s[0]'h).toNat:Int)=48:=by rw[<-aA s 0 h];exact h0
 have h1:s.data.toList=(s[0]'h) :: s.data.toList.drop 1:=by
  have:=Fa (l:=s.data.toList) (i:=0) (by simpa using h);rw[Ff] at this;exact this
 conv=>rhs;rw[h1]
 unfold aZ;rw[List.foldl_cons,hb];rfl
theorem bV (s:ByteArray):s.data.toList.take s.size=s.data.toList:=Fh (by simp)
end Go.Proofs.YthjbodpeckebiaaGreatDoor
-- Trim
namespace Go.Proofs.YthjbodpeckebiaaGreatDoor
open Go.RowKit
def cE (r:Int):Bool:=decide (r=32\/r=9)
def m9 (b:UInt8):Bool:=cE b.toNat
def cO (l:List UInt8):List UInt8:=((l.dropWhile m9).reverse.dropWhile m9).reverse
def aX (s:ByteArray):ByteArray:=⟨(cO s.data.toList).toArray⟩
theorem lp:∀(p l:List UInt8),(∀b∈p,m9 b=true)->(p++l).dropWhile m9=l.dropWhile m9
 | [],_,_=>rfl
 | b :: p,l,h=>by
   rw[F3,List.dropWhile_cons,if_pos (h b (by simp)),lp p l (fun x hx=>h x (by simp[hx]))]
theorem tS {p:List UInt8} (h:∀b∈p,m9 b=true):p.dropWhile m9=[]:=by
 have:=lp p [] h;rw[Fp] at this;exact this
theorem nM {p:List UInt8} (l:List UInt8) (h:∀b∈p,m9 b=true):cO (p++l)=cO l:=by
 unfold cO;rw[lp p l h]
theorem pX {q:List UInt8} (l:List UInt8) (h:∀b∈q,m9 b=true):cO (l++q)=cO l:=by
 unfold cO;rw[List.dropWhile_append];by_cases hl:(l.dropWhile m9).isEmpty=true
 ·rw[if_pos hl,tS h]
  rw[Gy] at hl;rw[hl]
 ·rw[if_neg hl,List.reverse_append,lp q.reverse _ (fun b hb=>h b (by simpa using hb))]
theorem C4 {l:List UInt8} (h1:∀b,l.head? = some b->m9 b=false) (h2:∀b,l.getLast? = some b->m9 b=false):cO l=l:=by
 unfold cO
 have e1:l.dropWhile m9=l:=by
  cases l with
  | nil=>rfl
  | cons b t=>rw[List.dropWhile_cons,if_neg (by rw[h1 b rfl];decide)]
 rw[e1]
 have e2:l.reverse.dropWhile m9=l.reverse:=by
  cases hr:l.reverse with
  | nil=>rfl
  | cons b t=>
    have:l.getLast? = some b:=by rw[<-List.head?_reverse,hr];rfl
    rw[List.dropWhile_cons,if_neg (by rw[h2 b this];decide)]
 rw[e2,List.reverse_reverse]
theorem dx {r:Int} (h:r=32\/r=9):cE r=true:=dT h
theorem eJ {r:Int} (h1:r≠32) (h2:r≠9):cE r=false:=dF (by omega)
theorem lW (s:ByteArray) (k:Nat) (h:k<s.size):m9 (s[k]'h)=cE (bt s k):=by unfold m9;rw[aA s k h]
theorem yY (r:Int) (w:World):Calls Tryz.prog 212 #[.int .u8 r] w fun e w'=>e=.returned (.bool (cE r))/\w=w':=by
 by_cases h1:r=32
 ·have HV:=lH (dx (.inl h1))
  subst h1;go_enter Tryz.func212,Tryz.ntmps212
  go_wp2_with fail
  go_ret;rw[HV.out];exact⟨rfl,rfl⟩
 ·have e1:(r==32)=false:=by rw[EJ];exact h1
  by_cases h2:r=9
  ·have HV:=lH (dx (.inr h2))
   subst h2;go_enter Tryz.func212,Tryz.ntmps212
   go_wp2_with fail
   go_ret;rw[HV.out];exact⟨rfl,rfl⟩
  ·have e2:(r==9)=false:=by rw[EJ];exact h2
   have HV:=lH (eJ h1 h2);go_enter Tryz.func212,Tryz.ntmps212
   go_wp2_with fail
   go_ret;rw[HV.out];exact⟨rfl,rfl⟩
theorem kK {r:Int} {p:Bool} (h:cE r=p) (w:World):Calls Tryz.prog 212 #[.int .u8 r] w fun e w'=>e=.returned (.bool p)/\w=w':=by
 subst h;exact yY r w
theorem bj {a b:ByteArray} (h:a.data.toList=b.data.toList):a=b:=by
 apply GU;exact Array.toList_inj.1 h
theorem mJ {s:ByteArray} {k:Nat} (hk:k<=s.size) (h:∀j,j<k->cE (bt s j)=true):∀b∈s.data.toList.take k,m9 b=true:=by
 intro b hb;obtain⟨j,hj,e⟩:=List.getElem_of_mem hb;rw[Ge] at hj;have hj':j<s.size:=by omega
 rw[List.getElem_take] at e;rw[<-e];show m9 (s[j]'hj')=true;rw[lW];exact h j (by omega)
theorem ug {s:ByteArray} {k:Nat} (h:∀j,k<=j->j<s.size->cE (bt s j)=true):∀b∈s.data.toList.drop k,m9 b=true:=by
 intro b hb;obtain⟨j,hj,e⟩:=List.getElem_of_mem hb;rw[ES] at hj
 have hj':k+j<s.size:=by
  have:s.data.toList.length=s.size:=by simp
  omega
 rw[List.getElem_drop] at e;rw[<-e];show m9 (s[k+j]'hj')=true;rw[lW];exact h (k+j) (by omega) hj'
theorem qc {s:ByteArray} (h:∀j,j<s.size->cE (bt s j)=true):aX s=⟨#[]⟩:=by
 have:=mJ (nR _) h;rw[Fh (by simp)] at this;unfold aX cO;rw[tS this];rfl
theorem nZ (s:ByteArray) {k j:Nat} (hkj:k<=j):s.data.toList=s.data.toList.take k++((s.extract k j).data.toList++s.data.toList.drop j):=by
 rw[Lib.extract_data];have h1:s.data.toList.drop j=(s.data.toList.drop k).drop (j - k):=by rw[Fb];congr 1;omega
 rw[h1,Gp,Gp]
theorem sj {s:ByteArray} {k j:Nat} (hkj:k<j) (hj:j<=s.size) (h1:∀i,i<k->cE (bt s i)=true) (h2:∀i,j<=i->i<s.size->cE (bt s i)=true) (h3:cE (bt s k)=false) (h4:cE (bt s (j - 1))=false):aX s=s.extract k j:=by
 apply bj;show cO s.data.toList=_;rw[nZ s (Nat.le_of_lt hkj),nM _ (mJ (by omega) h1),pX _ (ug h2)];refine C4 (fun b hb=>?_) (fun b hb=>?_)
 ·rw[List.head?_eq_getElem?,Lib.extract_data,Gn (by omega),Gf,Nat.add_zero,EM (by simp;omega)] at hb
  have:=Gs hb;rw[<-this];show m9 (s[k]'(by omega))=false;rw[lW];exact h3
 ·rw[List.getLast?_eq_getElem?,Lib.extract_data,Ge,ES] at hb
  have hl:s.data.toList.length=s.size:=by simp
  rw[hl,show min (j - k) (s.size - k) - 1=j - k - 1 by omega,Gn (by omega),Gf,show k+(j - k - 1)=j - 1 by omega,EM (by simp;omega)] at hb;have:=Gs hb;rw[<-this];show m9 (s[j - 1]'(by omega))=false;rw[lW];exact h4
theorem kN (s:ByteArray) (hs:s.size<=9223372036854775807) (w:World):Calls Tryz.prog 172 #[.string s] w fun e w'=>e=.returned (.string (aX s))/\w=w':=by
 have hsi:(s.size:Int)<=9223372036854775807:=by omega
 go_enter Tryz.func172,Tryz.ntmps172
 go_wp2_with fail
 go_loop [3] (fun i=>∃k:Nat,k<=s.size/\i=.int .i64 k/\∀j,j<k->cE (bt s j)=true) (fun i=>s.size - (intOf i).toNat)
 case atStart=>exact⟨0,by omega,rfl,fun j hj=>by omega⟩
 case round=>
  obtain⟨k,hk,rfl,hall⟩:=hrel;have HA:=lH hall;clear hall;by_cases hlt:k<s.size
  ·have hki:(k:Int)<s.size:=by omega
   obtain⟨b,hb⟩:∃b,b=bt s k:=⟨_,rfl⟩;have hix:∀W:World,(Instr.index 9 (.string s) (.int .i64 k)).run Tryz.prog W=.ok (.int .u8 b) W:=by rw[hb];exact aj s k hlt
   cases hbl:cE b
   ·have HB:=lH hbl
    have HBB:=lH hb;clear hb hbl;go_wp2_with (go_at_call 212;refine(kK HB.out _).mono ?_;rintro e' w' ⟨rfl,rfl⟩)
    go_loop [4] (fun i=>∃j:Nat,k+1<=j/\j<=s.size/\i=.int .i64 j/\∀x,j<=x->x<s.size->cE (bt s x)=true) (fun i=>(intOf i).toNat)
    case atStart=>exact⟨s.size,by omega,nR _,rfl,fun x h1 h2=>by omega⟩
    case round=>
     obtain⟨j,hj1,hj2,rfl,hall⟩:=hrel;have HC:=lH hall;clear hall hix;obtain⟨i,rfl⟩:∃i,j=i+1:=⟨j - 1,by omega⟩;have hji:(k:Int)<(i:Int)+1:=by omega
     have hjk:(i:Int)+1<=9223372036854775807:=by omega
     have hjs:(i:Int)<s.size:=by omega
     obtain⟨c,hc⟩:∃c,c=bt s i:=⟨_,rfl⟩;have hix:∀W:World,(Instr.index 9 (.string s) (.int .i64 i)).run Tryz.prog W=.ok (.int .u8 c) W:=by rw[hc];exact aj s i (by omega)
     cases hcl:cE c
     ·have HD:=lH hcl
      have HR:Hid (aX s=s.extract k (i+1)):=sj (by omega) hj2 HA.out HC.out (HBB.out▸HB.out) (by rw[Nat.add_sub_cancel];exact hc▸hcl);have hsl:=fun(W:World)=>run_slice_string (w:=W) 9 s .i64 .i64 (k:Int) ((i:Int)+1) Tryz.underlying9 (by omega) (by omega) (by omega);have e1:((i:Int)+1).toNat=i+1:=rfl;have e2:(k:Int).toNat=k:=rfl;rw[e1,e2] at hsl;clear hc hcl e1 e2;go_wp2_with (go_at_call 212;refine(kK HD.out _).mono ?_;rintro e' w' ⟨rfl,rfl⟩)
      go_ret;rw[HR.out];exact⟨rfl,rfl⟩
     ·have HD:=lH hcl
      have hne:Hid (k+1<=i):=by
       show k+1<=i;rcases (by omega:k+1<=i\/i=k) with h|h
       ·exact h
       ·rw[hc,h] at hcl
        have:=HB.out;rw[HBB.out,hcl] at this;cases this
      have HE:Hid (∀x,i<=x->x<s.size->cE (bt s x)=true):=by
       show ∀x,i<=x->x<s.size->cE (bt s x)=true;intro x h1 h2;rcases (by omega:x=i\/i+1<=x) with rfl|h
       ·rw[<-hc];exact hcl
       ·exact HC.out x h h2
      clear hc hcl;go_wp2_with (go_at_call 212;refine(kK HD.out _).mono ?_;rintro e' w' ⟨rfl,rfl⟩)
      go_round
      case rel=>exact⟨i,hne.out,by omega,by go_num,HE.out⟩
      case measure=>simp[intOf]
   ·have HB:=lH hbl
    have HE:Hid (∀j,j<k+1->cE (bt s j)=true):=by
     show ∀j,j<k+1->cE (bt s j)=true;intro x h1;rcases (by omega:x=k\/x<k) with rfl|h
     ·rw[<-hb];exact hbl
     ·exact HA.out x h
    clear hb hbl;go_wp2_with (go_at_call 212;refine(kK HB.out _).mono ?_;rintro e' w' ⟨rfl,rfl⟩)
    go_round
    case rel=>exact⟨k+1,by omega,by go_num,HE.out⟩
    case measure=>simp[intOf];omega
  ·obtain rfl:k=s.size:=by omega
   have HR:Hid (aX s=ByteArray.empty):=qc HA.out;have hsl:=fun(W:World)=>run_slice_string (w:=W) 9 s .i64 .i64 (s.size:Int) (s.size:Int) Tryz.underlying9 (by omega) (by omega) (by omega);have e2:(s.size:Int).toNat=s.size:=rfl;rw[e2] at hsl;have hd:decide ((s.size:Int)<s.size)=false:=by rw[EP];omega
   clear e2 hlt hk;go_wp2_with fail
   refine wp_loop_rounds 1 ?_;rw[rounds_succ];go_wp2_with fail
   go_ret;rw[HR.out];exact⟨rfl,rfl⟩
theorem vZ {s:ByteArray} (h:0<s.size):s.data.toList=[s[0]'h]++(s.extract 1 s.size).data.toList:=by
 have:=nZ s (k:=1) (j:=s.size) (by omega);rw[E6 (l:=s.data.toList) (i:=s.size) (by simp),Fp] at this;rw[this];congr 1
 rw[E8 (by simp;omega)];rfl
theorem xp {s:ByteArray} (h:0<s.size):s.data.toList=(s.extract 0 (s.size - 1)).data.toList++[s[s.size - 1]'(by omega)]:=by
 have:=nZ s (k:=0) (j:=s.size - 1) (by omega);rw[FG,GH] at this;rw[this];congr 1
 rw[Fa (by simp;omega),E6 (by simp;omega)];rfl
theorem uw {s:ByteArray} (h:0<s.size) (hb:cE (bt s 0)=true):aX (s.extract 1 s.size)=aX s:=by
 apply bj;show cO _=cO _;rw[vZ h,nM];intro b hb';rw[Gw] at hb';rw[hb',lW];exact hb
theorem vr {s:ByteArray} (h:0<s.size) (hb:cE (bt s (s.size - 1))=true):aX (s.extract 0 (s.size - 1))=aX s:=by
 apply bj;show cO _=cO _;rw[xp h,pX];intro b hb';rw[Gw] at hb';rw[hb',lW];exact hb
theorem xW {s:ByteArray} (h:0<s.size) (h1:cE (bt s 0)=false) (h2:cE (bt s (s.size - 1))=false):aX s=s:=by
 rw[sj (k:=0) (j:=s.size) h (nR _) (fun i hi=>by omega) (fun i hi hi'=>by omega) h1 h2];apply bj;rw[Lib.extract_data,Ff,Fh (by simp)]
theorem vg {s:ByteArray} (h:s.size=0):aX s=s:=by
 rw[qc (fun j hj=>by omega)];apply bj;have:s.data.toList=[]:=EU (by simpa using h);rw[this]
theorem tl {s:ByteArray} (h:1<s.size):bt (s.extract 0 (s.size - 1)) 0=bt s 0:=by
 have hz:0<(s.extract 0 (s.size - 1)).size:=by simp;omega
 have h1:(s.extract 0 (s.size - 1)).data.toList[0]? = s.data.toList[0]?:=by rw[Lib.extract_data,Gn (by omega),Ff]
 rw[aA _ 0 hz,aA s 0 (by omega)];rw[EM (by simpa using hz),EM (by simp;omega)] at h1;exact FH (fun b:UInt8=>(b.toNat:Int)) (Gs h1)
theorem gG (s:ByteArray) (hs:s.size<=9223372036854775807) (w:World):Calls Tryz.prog 158 #[.string s] w fun e w'=>e=.returned (.string (aX s))/\w=w':=by
 go_enter Tryz.func158,Tryz.ntmps158
 go_wp2_with fail
 go_loop [0] (fun v=>∃S:ByteArray,v=.string S/\S.size<=9223372036854775807/\aX S=aX s) (fun v=>(match v with | .string S=>S.size|_=>0))
 case atStart=>exact⟨s,rfl,hs,rfl⟩
 case round=>
  obtain⟨S,rfl,hS,ht⟩:=hrel;have HT:=lH ht;clear ht hs;have hSi:(S.size:Int)<=9223372036854775807:=by omega
  by_cases h0:S.size=0
  ·have HR:Hid (aX s=S):=by show aX s=S;rw[<-HT.out,vg h0]
   have hz:(S.size:Int)=0:=by omega
   clear h0;go_wp2_with fail
   refine wp_loop_rounds 1 ?_;rw[rounds_succ];go_wp2_with fail
   go_ret;rw[HR.out];exact⟨rfl,rfl⟩
  ·have hp:(0:Int)<S.size:=by omega
   obtain⟨b,hb⟩:∃b,b=bt S 0:=⟨_,rfl⟩;have hix:∀W:World,(Instr.index 9 (.string S) (.int .i64 0)).run Tryz.prog W=.ok (.int .u8 b) W:=by rw[hb];exact aj S 0 (by omega)
   by_cases hx:b=32\/b=9
   ·have hsl:=fun(W:World)=>FR (P:=Tryz.prog) W 9 S Tryz.underlying9 .i64 1 (by omega) (by omega)
    have e1:(1:Int).toNat=1:=rfl;rw[e1] at hsl
    have HN:Hid (aX (S.extract 1 S.size)=aX s/\(S.extract 1 S.size).size+1=S.size):=by
     show _/\_;refine⟨?_,by simp;omega⟩;rw[uw (by omega) (hb▸dx hx)];exact HT.out
    have hy:b=32\/((b==32)=false/\b=9):=by
     rcases hx with h|h
     ·exact .inl h
     ·exact .inr ⟨by rw[h];rfl,h⟩
    have HZ:=lH h0;clear hb hx h0 e1;rcases hy with rfl|⟨hy,rfl⟩
    all_goals
     go_wp2_with fail
     go_round
     case rel=>exact⟨_,rfl,by have:=HN.out.2;omega,HN.out.1⟩
     case measure=>have:=HN.out.2;simp only[];omega
   ·have n1:(b==32)=false:=by rw[EJ];exact fun h=>hx (.inl h)
    have n2:(b==9)=false:=by rw[EJ];exact fun h=>hx (.inr h)
    have HB:Hid (cE (bt S 0)=false):=by show _=_;rw[<-hb];exact eJ (fun h=>hx (.inl h)) (fun h=>hx (.inr h))
    have H0:=lH h0;clear hb hx h0;go_wp2_with fail
    go_loop [0] (fun v=>∃X:ByteArray,v=.string X/\X.size<=9223372036854775807/\aX X=aX s/\0<X.size/\cE (bt X 0)=false) (fun v=>(match v with | .string X=>X.size|_=>0))
    case atStart=>exact⟨S,rfl,hS,HT.out,by have:=H0.out;omega,HB.out⟩
    case round=>
     obtain⟨X,rfl,hX,ht,hp2,hb2⟩:=hrel;have HT2:=lH ht;have HB2:=lH hb2;clear ht hb2 hix n1 n2 hp hSi;have hXi:(X.size:Int)<=9223372036854775807:=by omega
     have hXp:(0:Int)<X.size:=by omega
     obtain⟨i,hi⟩:∃i,X.size=i+1:=⟨X.size - 1,by omega⟩;have hii:(X.size:Int) - 1=(i:Int):=by omega
     obtain⟨c,hc⟩:∃c,c=bt X i:=⟨_,rfl⟩;have hix:∀W:World,(Instr.index 9 (.string X) (.int .i64 ((X.size:Int) - 1))).run Tryz.prog W=.ok (.int .u8 c) W:=by rw[hc,hii];exact aj X i (by omega)
     by_cases hx:c=32\/c=9
     ·have hsl:=fun(W:World)=>run_slice_string_h (P:=Tryz.prog) W 9 X Tryz.underlying9 .i64 ((X.size:Int) - 1) (by omega) (by omega)
      have e1:((X.size:Int) - 1).toNat=X.size - 1:=by omega
      rw[e1] at hsl;have hi2:X.size - 1=i:=by omega
      have hne:1<=i:=by
       rcases (by omega:1<=i\/i=0) with h|h
       ·exact h
       ·rw[hc,h] at hx
        have:=dx hx;rw[HB2.out] at this;cases this
      have HN:Hid (aX (X.extract 0 (X.size - 1))=aX s/\(X.extract 0 (X.size - 1)).size+1=X.size/\1<=(X.extract 0 (X.size - 1)).size/\cE (bt (X.extract 0 (X.size - 1)) 0)=false):=by
       show _/\_;refine⟨?_,by simp;omega,by simp;omega,?_⟩
       ·rw[vr (by omega) (by rw[hi2,<-hc];exact dx hx)];exact HT2.out
       ·rw[tl (by omega)];exact HB2.out
      have hy:c=32\/((c==32)=false/\c=9):=by
       rcases hx with h|h
       ·exact .inl h
       ·exact .inr ⟨by rw[h];rfl,h⟩
      have HI:=lH hi;clear hc hx e1 hi hi2 hii hne;rcases hy with rfl|⟨hy,rfl⟩
      all_goals
       go_wp2_with fail
       go_round
       case rel=>exact⟨_,rfl,by have:=HN.out.2.1;omega,HN.out.1,HN.out.2.2.1,HN.out.2.2.2⟩
       case measure=>have:=HN.out.2.1;simp only[];omega
     ·have n1:(c==32)=false:=by rw[EJ];exact fun h=>hx (.inl h)
      have n2:(c==9)=false:=by rw[EJ];exact fun h=>hx (.inr h)
      have HR:Hid (aX s=X):=by
       show aX s=X;rw[<-HT2.out];exact xW hp2 HB2.out (by rw[show X.size - 1=i by omega,<-hc];exact eJ (fun h=>hx (.inl h)) (fun h=>hx (.inr h)))
      clear hc hx hi hii;go_wp2_with fail
      go_ret;rw[HR.out];exact⟨rfl,rfl⟩
end Go.Proofs.YthjbodpeckebiaaGreatDoor
-- StartB
namespace Go.Proofs.YthjbodpeckebiaaGreatDoor
open Go.RowKit
theorem nH {s:ByteArray} (h:cS s=true):s.size=8:=by
 unfold cS at h;rw[Fq,EO] at h;exact h.1
theorem mM {s:ByteArray} (h:cS s=true):48<=bt s 7/\bt s 7<=57:=by
 unfold cS at h;rw[Fq,Fq,Fq,Fq] at h;have:=h.2.2.2.2;unfold cK at this;rw[EO] at this;exact this
theorem mK {s:ByteArray} (h:cS s=false):bw s=(0,3):=by unfold bw;rw[if_pos h]
theorem iV {s:ByteArray} (h:cS s=true) (h5:bt s 5≠49):bw s=(0,9):=by unfold bw;rw[if_neg (by rw[h];decide),if_neg h5]
theorem mz {s:ByteArray} (h:cS s=true) (h5:bt s 5=49) (h7:bt s 7=48):bw s=(0,0):=by unfold bw;rw[if_neg (by rw[h];decide),if_pos h5,if_pos h7]
theorem nl {s:ByteArray} (h:cS s=true) (h5:bt s 5=49) (h7:bt s 7≠48):bw s=(1,0):=by unfold bw;rw[if_neg (by rw[h];decide),if_pos h5,if_neg h7]
theorem gJ {s:ByteArray} (hs:s.size<=9223372036854775807) {p:Bool} (h:cS s=p) (w:World):Calls Tryz.prog 168 #[.string s] w fun e w'=>e=.returned (.bool p)/\w=w':=by
 subst h;exact uY s hs w
theorem lR (s:ByteArray) (hs:s.size<=9223372036854775807) {k e:Int} (hv:bw s=(k,e)) (w:World):Calls Tryz.prog 167 #[.string s] w fun r w'=>r=.returned (.tuple #[.int .i64 k,.int .i64 e])/\w=w':=by
 have HV:=lH hv;have HS:=lH hs;clear hv;cases hf:cS s
 ·have HK:Hid ((0,3)=(k,e)):=by rw[<-HV.out,mK hf];exact rfl
  have HF:=lH hf;clear hf;go_enter Tryz.func167,Tryz.ntmps167
  go_wp2_with (go_at_call 168;refine(gJ HS.out HF.out _).mono ?_;rintro e' w' ⟨rfl,rfl⟩)
  go_ret2
  obtain⟨rfl,rfl⟩:=FB HK.out;exact⟨rfl,rfl⟩
 ·have h8:=nH hf
  have hr7:=mM hf;have i5:∀W:World,(Instr.index 9 (.string s) (.int .i64 5)).run Tryz.prog W=.ok (.int .u8 (bt s 5)) W:=aj s 5 (by omega);have i7:∀W:World,(Instr.index 9 (.string s) (.int .i64 7)).run Tryz.prog W=.ok (.int .u8 (bt s 7)) W:=aj s 7 (by omega);obtain⟨b5,hb5⟩:∃b,b=bt s 5:=⟨_,rfl⟩;obtain⟨b7,hb7⟩:∃b,b=bt s 7:=⟨_,rfl⟩;rw[<-hb5] at i5;rw[<-hb7] at i7 hr7;have HF:=lH hf;have HB5:=lH hb5;have HB7:=lH hb7;clear hf hb5 hb7 h8;by_cases h5:b5=49
  ·by_cases h7:b7=48
   ·have HK:Hid ((0,0)=(k,e)):=by rw[<-HV.out,mz HF.out (HB5.out▸h5) (HB7.out▸h7)];exact rfl
    subst h5 h7;go_enter Tryz.func167,Tryz.ntmps167
    go_wp2_with (go_at_call 168;refine(gJ HS.out HF.out _).mono ?_;rintro e' w' ⟨rfl,rfl⟩)
    go_ret2
    obtain⟨rfl,rfl⟩:=FB HK.out;exact⟨rfl,rfl⟩
   ·have HK:Hid ((1,0)=(k,e)):=by rw[<-HV.out,nl HF.out (HB5.out▸h5) (HB7.out▸h7)];exact rfl
    have h7':(b7==48)=false:=by simpa using h7
    subst h5;go_enter Tryz.func167,Tryz.ntmps167
    go_wp2_with (go_at_call 168;refine(gJ HS.out HF.out _).mono ?_;rintro e' w' ⟨rfl,rfl⟩)
    go_ret2
    obtain⟨rfl,rfl⟩:=FB HK.out;exact⟨rfl,rfl⟩
  ·have HK:Hid ((0,9)=(k,e)):=by rw[<-HV.out,iV HF.out (HB5.out▸h5)];exact rfl
   have h5':(b5==49)=false:=by simpa using h5
   go_enter Tryz.func167,Tryz.ntmps167
   go_wp2_with (go_at_call 168;refine(gJ HS.out HF.out _).mono ?_;rintro e' w' ⟨rfl,rfl⟩)
   go_ret2
   obtain⟨rfl,rfl⟩:=FB HK.out;exact⟨rfl,rfl⟩
end Go.Proofs.YthjbodpeckebiaaGreatDoor
-- StartC
namespace Go.Proofs.YthjbodpeckebiaaGreatDoor
open Go.RowKit
theorem sw (l p:List UInt8):(l.take p.length==p)=Lib.hasPrefix l p:=by
 unfold Lib.hasPrefix;rw[F6,FA,List.isPrefixOf_iff_prefix,List.prefix_iff_eq_take];exact⟨Eq.symm,Eq.symm⟩
theorem yf (s:ByteArray):((s.extract 0 5).toList==[72,84,84,80,47])=Lib.hasPrefix s.data.toList [72,84,84,80,47]:=by
 rw[Lib.extract_toList,<-sw];rfl
theorem tn (s:ByteArray) (hs:s.size<=9223372036854775807) (w:World):Calls Tryz.prog 123 #[.string s] w fun e w'=>e=.returned (.bool (cS s))/\w=w':=by
 by_cases h8:s.size=8
 ·obtain⟨p,hp⟩:∃p,Lib.hasPrefix s.data.toList [72,84,84,80,47]=p:=⟨_,rfl⟩
  obtain⟨d,hd⟩:∃d,cK (bt s 5)=d:=⟨_,rfl⟩;obtain⟨e,he⟩:∃e,decide (bt s 6=46)=e:=⟨_,rfl⟩;obtain⟨f,hf⟩:∃f,cK (bt s 7)=f:=⟨_,rfl⟩;have HV:=lH (pF s h8 hp hd he hf);have hpx:((s.extract 0 5).toList==[72,84,84,80,47])=p:=(yf s).trans hp;have i5:∀W:World,(Instr.index 9 (.string s) (.int .i64 5)).run Tryz.prog W=.ok (.int .u8 (bt s 5)) W:=aj s 5 (by omega);have i6:∀W:World,(Instr.index 9 (.string s) (.int .i64 6)).run Tryz.prog W=.ok (.int .u8 (bt s 6)) W:=aj s 6 (by omega);have i7:∀W:World,(Instr.index 9 (.string s) (.int .i64 7)).run Tryz.prog W=.ok (.int .u8 (bt s 7)) W:=aj s 7 (by omega);have r5:=lH (bi s 5);have r7:=lH (bi s 7);obtain⟨b5,hb5⟩:∃b,b=bt s 5:=⟨_,rfl⟩;obtain⟨b6,hb6⟩:∃b,b=bt s 6:=⟨_,rfl⟩;obtain⟨b7,hb7⟩:∃b,b=bt s 7:=⟨_,rfl⟩;rw[<-hb5] at i5 hd r5;rw[<-hb6] at i6 he;rw[<-hb7] at i7 hf r7;have he':(b6==46)=e:=he;have HD:=lH hd;have HF:=lH hf;clear hp hd hf hb5 hb6 hb7;have h8i:(s.size:Int)=8:=by omega
  have h5:p=false\/(p=true/\d=false)\/(p=true/\d=true/\e=false)\/(p=true/\d=true/\e=true/\f=false)\/(p=true/\d=true/\e=true/\f=true):=by cases p<;>cases d<;>cases e<;>cases f<;>simp
  rcases h5 with rfl|⟨rfl,rfl⟩|⟨rfl,rfl,rfl⟩|⟨rfl,rfl,rfl,rfl⟩|⟨rfl,rfl,rfl,rfl⟩;rotate_left 3
  ·obtain rfl:b6=46:=of_decide_eq_true he
   clear he he';go_enter Tryz.func123,Tryz.ntmps123
   go_wp2_with (go_at_call 124;first|(refine(cI HD.out r5.out _).mono ?_;rintro e' w' ⟨rfl,rfl⟩)|(refine(cI HF.out r7.out _).mono ?_;rintro e' w' ⟨rfl,rfl⟩))
   go_ret;rw[HV.out];exact⟨rfl,rfl⟩
  ·obtain rfl:b6=46:=of_decide_eq_true he
   clear he he';go_enter Tryz.func123,Tryz.ntmps123
   go_wp2_with (go_at_call 124;first|(refine(cI HD.out r5.out _).mono ?_;rintro e' w' ⟨rfl,rfl⟩)|(refine(cI HF.out r7.out _).mono ?_;rintro e' w' ⟨rfl,rfl⟩))
   go_ret;rw[HV.out];exact⟨rfl,rfl⟩
  all_goals
   go_enter Tryz.func123,Tryz.ntmps123
   go_wp2_with (go_at_call 124;refine(cI HD.out r5.out _).mono ?_;rintro e' w' ⟨rfl,rfl⟩)
   go_ret;rw[HV.out];exact⟨rfl,rfl⟩
 ·have HV:=lH (qx s h8)
  have h8i:¬((s.size:Int)=8):=by omega
  go_enter Tryz.func123,Tryz.ntmps123
  go_wp2_with fail
  go_ret;rw[HV.out];exact⟨rfl,rfl⟩
theorem fA {s:ByteArray} (hs:s.size<=9223372036854775807) {p:Bool} (h:cS s=p) (w:World):Calls Tryz.prog 123 #[.string s] w fun e w'=>e=.returned (.bool p)/\w=w':=by
 subst h;exact tn s hs w
theorem oo (s:ByteArray) (hs:s.size<=9223372036854775807) {k e:Int} (hv:bw s=(k,e)) (w:World):Calls Tryz.prog 122 #[.string s] w fun r w'=>r=.returned (.tuple #[.int .i64 k,.int .i64 e])/\w=w':=by
 have HV:=lH hv;have HS:=lH hs;clear hv;cases hf:cS s
 ·have HK:Hid ((0,3)=(k,e)):=by rw[<-HV.out,mK hf];exact rfl
  have HF:=lH hf;clear hf;go_enter Tryz.func122,Tryz.ntmps122
  go_wp2_with (go_at_call 123;refine(fA HS.out HF.out _).mono ?_;rintro e' w' ⟨rfl,rfl⟩)
  go_ret2
  obtain⟨rfl,rfl⟩:=FB HK.out;exact⟨rfl,rfl⟩
 ·have h8:=nH hf
  have hr7:=mM hf;have i5:∀W:World,(Instr.index 9 (.string s) (.int .i64 5)).run Tryz.prog W=.ok (.int .u8 (bt s 5)) W:=aj s 5 (by omega);have i7:∀W:World,(Instr.index 9 (.string s) (.int .i64 7)).run Tryz.prog W=.ok (.int .u8 (bt s 7)) W:=aj s 7 (by omega);obtain⟨b5,hb5⟩:∃b,b=bt s 5:=⟨_,rfl⟩;obtain⟨b7,hb7⟩:∃b,b=bt s 7:=⟨_,rfl⟩;rw[<-hb5] at i5;rw[<-hb7] at i7 hr7;have hlo:=hr7.1;have hhi:=hr7.2;have HF:=lH hf;have HB5:=lH hb5;have HB7:=lH hb7;clear hf hb5 hb7 h8 hr7;by_cases h5:b5=49
  ·by_cases h7:b7=48
   ·have HK:Hid ((0,0)=(k,e)):=by rw[<-HV.out,mz HF.out (HB5.out▸h5) (HB7.out▸h7)];exact rfl
    subst h5 h7;go_enter Tryz.func122,Tryz.ntmps122
    go_wp2_with (go_at_call 123;refine(fA HS.out HF.out _).mono ?_;rintro e' w' ⟨rfl,rfl⟩)
    go_ret2
    obtain⟨rfl,rfl⟩:=FB HK.out;exact⟨rfl,rfl⟩
   ·have HK:Hid ((1,0)=(k,e)):=by rw[<-HV.out,nl HF.out (HB5.out▸h5) (HB7.out▸h7)];exact rfl
    have h1:49<=b7:=by omega
    have hm:Hid (min (b7 - 48) 1=1):=by show min (b7 - 48) 1=1;omega
    subst h5;go_enter Tryz.func122,Tryz.ntmps122
    go_wp2_with (go_at_call 123;refine(fA HS.out HF.out _).mono ?_;rintro e' w' ⟨rfl,rfl⟩)
    go_ret2
    obtain⟨rfl,rfl⟩:=FB HK.out;refine⟨?_,rfl⟩;show Ending.returned (Value.tuple #[.int .i64 (min (b7 - 48) 1),.int .i64 0])=_;rw[hm.out]
  ·have HK:Hid ((0,9)=(k,e)):=by rw[<-HV.out,iV HF.out (HB5.out▸h5)];exact rfl
   have h5':(b5==49)=false:=by simpa using h5
   go_enter Tryz.func122,Tryz.ntmps122
   go_wp2_with (go_at_call 123;refine(fA HS.out HF.out _).mono ?_;rintro e' w' ⟨rfl,rfl⟩)
   go_ret2
   obtain⟨rfl,rfl⟩:=FB HK.out;exact⟨rfl,rfl⟩
end Go.Proofs.YthjbodpeckebiaaGreatDoor
-- NumberW
namespace Go.Proofs.YthjbodpeckebiaaGreatDoor
open Go.RowKit
def jo:Value->Nat
 | .string t=>t.size
 | _=>0
theorem aV (s:ByteArray) (k:Nat) (h:k<s.size) {b:Int} (hb:b=bt s k) (W:World):(Instr.index 9 (.string s) (.int .i64 (k:Int))).run Tryz.prog W=.ok (.int .u8 b) W:=by rw[hb];exact aj s k h W
theorem rG (s:ByteArray) (h1:1<=s.size) (h18:s.size<=18) (hd:jE s) (most:Int) (hm0:0<=most) (hm:most<=9223372036854775807) (n e:Int) (hr:(if aZ 10 s.data.toList<=most then (aZ 10 s.data.toList,(0:Int)) else (0,5))=(n,e)) (w:World):
 Calls Tryz.prog 103 #[.string s,.int .i64 10,.int .i64 most] w fun r w'=>r=.returned (.tuple #[.int .i64 n,.int .i64 e])/\w=w':=by
 have HR:=lH hr;have HD:=lH hd;clear hr hd;have hsz:(1:Int)<=s.size:=by omega
 have hsz2:(s.size:Int)<=18:=by omega
 have hz:((s.size:Int)==0)=false:=by rw[EJ];omega
 go_enter Tryz.func103,Tryz.ntmps103
 go_wp2_with fail
 go_loop [8] (fun i=>∃k:Nat,k<=s.size/\i=.int .i64 k/\∀j:Nat,j<k->48<=bt s j) (fun i=>s.size - (intOf i).toNat)
 case atStart=>exact⟨0,by omega,rfl,fun j hj=>by omega⟩
 case round=>
  obtain⟨k,hk,rfl,_⟩:=hrel;by_cases hlt:k<s.size
  ·obtain⟨b,hb⟩:∃b,b=bt s k:=⟨_,rfl⟩
   have hix:=aV s k hlt hb;have hdk:=HD.out k hlt;rw[<-hb] at hdk;have hb1:=hdk.1;have hb2:=hdk.2;clear hb hdk;go_wp2_with (go_at_call 130;refine(ed b hb1 hb2 _).mono ?_;rintro e' w' ⟨rfl,rfl⟩)
   go_round
   case rel=>exact⟨k+1,by omega,by go_num,fun j hj=>(HD.out j (by omega)).1⟩
   case measure=>simp[intOf];omega
  ·obtain rfl:k=s.size:=by omega
   go_wp2_with fail
   go_loop [0] (fun v=>∃t:ByteArray,v=.string t/\1<=t.size/\t.size<=18/\jE t/\aZ 10 t.data.toList=aZ 10 s.data.toList) (fun v=>jo v)
   case atStart=>exact⟨s,rfl,h1,h18,HD.out,rfl⟩
   case round=>
    obtain⟨t,rfl,ht1,ht18,htd,htn⟩:=hrel;have TD:=lH htd;have TN:=lH htn;clear htd htn;have hts:(1:Int)<=t.size:=by omega
    have hts2:(t.size:Int)<=18:=by omega
    obtain⟨b,hb⟩:∃b,b=bt t 0:=⟨_,rfl⟩;have hix:∀W:World,(Instr.index 9 (.string t) (.int .i64 0)).run Tryz.prog W=.ok (.int .u8 b) W:=aV t 0 (by omega) hb;have HB:=lH hb;clear hb;by_cases hgo:1<t.size/\b=48
    ·obtain⟨hg1,rfl⟩:=hgo
     have hg2:(1:Int)<t.size:=by omega
     go_wp2_with fail
     go_round
     case rel=>exact⟨t.extract 1 t.size,by simp,by rw[dp];omega,by rw[dp];omega,pK TD.out,by rw[sH (by omega) HB.out.symm];exact TN.out⟩
     case measure=>simp[jo];omega
    ·have hstop:t.size=1\/(1<t.size/\b≠48):=by
      rcases (by omega:t.size=1\/(1<t.size)) with h|h
      ·exact .inl h
      ·exact .inr ⟨h,fun h'=>hgo ⟨h,h'⟩⟩
     clear hgo;have h19:decide ((19:Int)<t.size)=false:=by rw[EP];omega
     rcases hstop with hone|⟨hmore,hne⟩
     ·have ho:(t.size:Int)=1:=by omega
      go_wp2_with fail
      go_loop [9,10] (fun nv iv=>∃(k:Nat) (m:Int),nv=.int .u64 m/\iv=.int .i64 k/\k<=t.size/\m=aZ 10 (t.data.toList.take k)) (fun _ iv=>t.size - (intOf iv).toNat)
      case atStart=>exact⟨0,0,rfl,rfl,by omega,rfl⟩
      case round=>
       obtain⟨k,m,rfl,rfl,hk,hmv⟩:=hrel;have HM:=lH hmv;clear hmv;by_cases hlt:k<t.size
       ·have hsm:=ni t TD.out k (by omega) (by omega)
        rw[<-HM.out] at hsm;have hsm0:=hsm.1;have hsm1:=hsm.2;obtain⟨c,hc⟩:∃c,c=bt t k:=⟨_,rfl⟩;have hix2:=aV t k hlt hc;have hdk:=TD.out k hlt;rw[<-hc] at hdk;have hc1:=hdk.1;have hc2:=hdk.2;have HC:=lH hc;clear hc hdk hsm;go_wp2_with (go_at_call 130;refine(ed c hc1 hc2 _).mono ?_;rintro e' w' ⟨rfl,rfl⟩)
        go_round
        case rel=>exact⟨k+1,m*10+(c - 48),by go_num,by go_num,by omega,by rw[cW t k hlt TD.out,<-HM.out,<-HC.out]⟩
        case measure=>simp[intOf];omega
       ·obtain rfl:k=t.size:=by omega
        have hmm:Hid (m=aZ 10 s.data.toList):=by show m=_;rw[HM.out,bV,TN.out]
        have hsm:=dM t TD.out t.size (by omega);rw[<-HM.out] at hsm;have hsm0:=hsm.1;have hp:(10:Nat) ^ t.size<=10 ^ 18:=GQ (by decide) ht18;have hp2:(10:Nat) ^ 18=1000000000000000000:=by decide
        have hsm1:m<1000000000000000000:=by omega
        clear hsm hp hp2;by_cases hle:m<=most
        ·have hK:Hid ((m,0)=(n,e)):=by show (m,0)=(n,e);rw[<-HR.out,if_pos (by rw[<-hmm.out];exact hle),hmm.out]
         have hgt:decide (most<m)=false:=by rw[EP];omega
         go_wp2_with fail
         go_ret2
         obtain⟨rfl,rfl⟩:=FB hK.out;exact⟨rfl,rfl⟩
        ·have hK:Hid ((0,5)=(n,e)):=by show (0,5)=(n,e);rw[<-HR.out,if_neg (by rw[<-hmm.out];exact hle)]
         have hgt:most<m:=by omega
         go_wp2_with fail
         go_ret2
         obtain⟨rfl,rfl⟩:=FB hK.out;exact⟨rfl,rfl⟩
     ·have hg2:(1:Int)<t.size:=by omega
      have hne':(b==48)=false:=by simpa using hne
      go_wp2_with fail
      go_loop [9,10] (fun nv iv=>∃(k:Nat) (m:Int),nv=.int .u64 m/\iv=.int .i64 k/\k<=t.size/\m=aZ 10 (t.data.toList.take k)) (fun _ iv=>t.size - (intOf iv).toNat)
      case atStart=>exact⟨0,0,rfl,rfl,by omega,rfl⟩
      case round=>
       obtain⟨k,m,rfl,rfl,hk,hmv⟩:=hrel;have HM:=lH hmv;clear hmv;by_cases hlt:k<t.size
       ·have hsm:=ni t TD.out k (by omega) (by omega)
        rw[<-HM.out] at hsm;have hsm0:=hsm.1;have hsm1:=hsm.2;obtain⟨c,hc⟩:∃c,c=bt t k:=⟨_,rfl⟩;have hix2:=aV t k hlt hc;have hdk:=TD.out k hlt;rw[<-hc] at hdk;have hc1:=hdk.1;have hc2:=hdk.2;have HC:=lH hc;clear hc hdk hsm;go_wp2_with (go_at_call 130;refine(ed c hc1 hc2 _).mono ?_;rintro e' w' ⟨rfl,rfl⟩)
        go_round
        case rel=>exact⟨k+1,m*10+(c - 48),by go_num,by go_num,by omega,by rw[cW t k hlt TD.out,<-HM.out,<-HC.out]⟩
        case measure=>simp[intOf];omega
       ·obtain rfl:k=t.size:=by omega
        have hmm:Hid (m=aZ 10 s.data.toList):=by show m=_;rw[HM.out,bV,TN.out]
        have hsm:=dM t TD.out t.size (by omega);rw[<-HM.out] at hsm;have hsm0:=hsm.1;have hp:(10:Nat) ^ t.size<=10 ^ 18:=GQ (by decide) ht18;have hp2:(10:Nat) ^ 18=1000000000000000000:=by decide
        have hsm1:m<1000000000000000000:=by omega
        clear hsm hp hp2;by_cases hle:m<=most
        ·have hK:Hid ((m,0)=(n,e)):=by show (m,0)=(n,e);rw[<-HR.out,if_pos (by rw[<-hmm.out];exact hle),hmm.out]
         have hgt:decide (most<m)=false:=by rw[EP];omega
         go_wp2_with fail
         go_ret2
         obtain⟨rfl,rfl⟩:=FB hK.out;exact⟨rfl,rfl⟩
        ·have hK:Hid ((0,5)=(n,e)):=by show (0,5)=(n,e);rw[<-HR.out,if_neg (by rw[<-hmm.out];exact hle)]
         have hgt:most<m:=by omega
         go_wp2_with fail
         go_ret2
         obtain⟨rfl,rfl⟩:=FB hK.out;exact⟨rfl,rfl⟩
end Go.Proofs.YthjbodpeckebiaaGreatDoor
-- PrP
namespace Go.Proofs.YthjbodpeckebiaaGreatDoor
open Go.RowKit
def ag (l:List UInt8):Nat:=(l.takeWhile m9).length
def tkB (b:UInt8):Bool:=aG b.toNat
def aU (l:List UInt8):Nat:=(l.takeWhile tkB).length
def kP:List UInt8->Option (Nat×List UInt8)
 | []=>none
 | b :: t=>if b=34 then some (1,[]) else if b=92 then
     (
      match t with
      | []=>none
      | c :: r=>if ax c.toNat=true then (kP r).map (fun p=>(p.1+2,c :: p.2)) else none)
   else if ax b.toNat=true then (kP t).map (fun p=>(p.1+1,b :: p.2)) else none
def pS:List UInt8->Option (Nat×List UInt8)
 | []=>none
 | b :: t=>if b=34 then (kP t).map (fun p=>(p.1+1,p.2)) else none
def iW (l:List UInt8):Option Nat:=
 match l.drop (ag l) with
 | []=>some 0
 | b :: r=>if b=61 then
     (
      if 0<aU (r.drop (ag r)) then some (ag l+1+ag r+aU (r.drop (ag r)))
      else (pS (r.drop (ag r))).map (fun p=>ag l+1+ag r+p.1))
   else some 0
def cV (l:List UInt8):Option Nat:=
 match l.drop (ag l) with
 | []=>none
 | b :: r=>if b=59 then
     (
      if aU (r.drop (ag r))=0 then none
      else (iW (r.drop (ag r+aU (r.drop (ag r))))).map (fun n=>ag l+1+ag r+aU (r.drop (ag r))+n))
   else none
def cy (l:List UInt8):Option Nat:=
 match l with
 | []=>some 0
 | c :: t=>
   match cV (c :: t) with
   | none=>none
   | some 0=>none
   | some (n+1)=>(cy (t.drop n)).map (·+1)
termination_by l.length
decreasing_by simp only[EQ,ES];omega
def dw (c:Int):Int:=if 65<=c/\c<=90 then c+32 else c
def zT (b:UInt8):UInt8:=if 65<=b.toNat/\b.toNat<=90 then b+32 else b
def km (l:List UInt8):List UInt8:=l.map zT
def br (s:ByteArray):ByteArray:=⟨(km s.data.toList).toArray⟩
theorem sE (b:UInt8):((zT b).toNat:Int)=dw b.toNat:=by
 unfold zT dw;have hb:b.toNat<256:=b.toNat_lt;by_cases h:65<=b.toNat/\b.toNat<=90
 ·rw[if_pos h,if_pos (by omega),UInt8.toNat_add]
  show (((b.toNat+32) % 256:Nat):Int)=_;omega
 ·rw[if_neg h,if_neg (by omega)]
theorem cX (s:ByteArray):(br s).size=s.size:=by
 show (km s.data.toList).toArray.size=s.size;unfold km;simp
def aW (s:ByteArray):ByteArray×Nat×Int:=
 if s.size=0 then (⟨#[]⟩,0,2)
 else if aU s.data.toList=0 then (⟨#[]⟩,0,3)
 else match cy (s.data.toList.drop (aU s.data.toList)) with
  | none=>(⟨#[]⟩,0,3)
  | some k=>(br (s.extract 0 (aU s.data.toList)),k,0)
theorem aT (l:List UInt8):ag l<=l.length:=by unfold ag;exact List.Sublist.length_le (List.takeWhile_sublist _)
theorem ep (l:List UInt8):aU l<=l.length:=by unfold aU;exact List.Sublist.length_le (List.takeWhile_sublist _)
theorem vC:∀(n:Nat) (l:List UInt8) (p:Nat×List UInt8),l.length<=n->kP l=some p->1<=p.1/\p.1<=l.length/\p.2.length<=l.length
 | _,[],_,_,h=>by rw[kP] at h;cases h
 | 0,b :: t,_,hn,_=>by simp at hn
 | n+1,b :: t,p,hn,h=>by
   have ht:t.length<=n:=by simpa using hn
   rw[kP.eq_def] at h;simp only at h;split at h
   ·cases h;simp
   split at h
   ·cases t with
    | nil=>cases h
    | cons c r=>
      simp only at h;split at h
      ·cases hq:kP r with
       | none=>rw[hq] at h;cases h
       | some q=>
         rw[hq] at h;cases h
         have:=vC n r q (by simp at ht;omega) hq;simp only[EQ];omega
      ·cases h
   split at h
   ·cases hq:kP t with
    | none=>rw[hq] at h;cases h
    | some q=>
      rw[hq] at h;cases h
      have:=vC n t q ht hq;simp only[EQ];omega
   ·cases h
theorem uB {l:List UInt8} {p:Nat×List UInt8} (h:pS l=some p):2<=p.1/\p.1<=l.length/\p.2.length<=l.length:=by
 cases l with
 | nil=>cases h
 | cons b t=>
   unfold pS at h;simp only at h;split at h
   ·cases hq:kP t with
    | none=>rw[hq] at h;cases h
    | some q=>
      rw[hq] at h;cases h
      have:=vC _ t q (nR _) hq;simp only[EQ];omega
   ·cases h
theorem iy {l r:List UInt8} {n:Nat} {b:UInt8} (h:l.drop n=b :: r):n+1+r.length=l.length:=by
 have:=FH List.length h;rw[ES,EQ] at this;have:n<l.length:=by omega
 omega
theorem CH {l:List UInt8} {n:Nat} (h:iW l=some n):n<=l.length:=by
 unfold iW at h;split at h
 ·cases h;omega
 ·rename_i b r hb
  have h1:=iy hb;have h2:=aT r;split at h
  ·split at h
   ·cases h
    have:=ep (r.drop (ag r));rw[ES] at this;omega
   ·cases hq:pS (r.drop (ag r)) with
    | none=>rw[hq] at h;cases h
    | some q=>
      rw[hq] at h;cases h
      have:=uB hq;rw[ES] at this;dsimp only
      omega
  ·cases h;omega
theorem mV {l:List UInt8} {n:Nat} (h:cV l=some n):2<=n/\n<=l.length:=by
 unfold cV at h;split at h
 ·cases h
 ·rename_i b r hb
  have h1:=iy hb;have h2:=aT r;split at h
  ·split at h
   ·cases h
   ·rename_i h3
    have h4:=ep (r.drop (ag r));rw[ES] at h4;cases hv:iW (r.drop (ag r+aU (r.drop (ag r)))) with
    | none=>rw[hv] at h;cases h
    | some m=>
      rw[hv] at h;cases h
      have:=CH hv;rw[ES] at this;dsimp only
      omega
  ·cases h
theorem ku {l:List UInt8} (hl:l≠[]):cy l=match cV l with|none=>none|some n=>(cy (l.drop n)).map (·+1):=by
 cases l with
 | nil=>exact absurd rfl hl
 | cons c t=>
   rw[cy];cases hp:cV (c :: t) with
   | none=>rfl
   | some n=>
     have:=mV hp;obtain⟨m,rfl⟩:∃m,n=m+1:=⟨n - 1,by omega⟩;rfl
theorem jp:cy []=some 0:=by rw[cy]
end Go.Proofs.YthjbodpeckebiaaGreatDoor
-- LsP
namespace Go.Proofs.YthjbodpeckebiaaGreatDoor
open Go.RowKit
structure Sc where
 q:Bool
 s:Bool
 d:Nat
def ie:Sc:=⟨false,false,0⟩
def Sc.closed (x:Sc):Bool:=!x.q&&(!x.s&&x.d==0)
def Sc.see (x:Sc) (c:Int):Sc:=
 if x.s=true then ⟨x.q,false,x.d⟩
 else if c=92 then ⟨x.q,x.q||decide (0<x.d),x.d⟩
 else if x.q=true then ⟨decide (c≠34),false,x.d⟩
 else if c=40 then ⟨false,false,x.d+1⟩
 else if 0<x.d then (if c=41 then ⟨false,false,x.d - 1⟩ else ⟨false,false,x.d⟩)
 else if c=34 then ⟨true,false,0⟩
 else ⟨false,false,0⟩
theorem tO {x:Sc} (h:x.closed=true):x=ie:=by
 obtain⟨q,s,d⟩:=x;unfold Sc.closed at h;cases q<;>cases s<;>simp at h ⊢
 subst h;rfl
def eQ:Sc->List UInt8->Sc
 | x,[]=>x
 | x,c :: l=>eQ (x.see c.toNat) l
def io:Sc->List UInt8->List UInt8->List (List UInt8)
 | _,a,[]=>[a]
 | x,a,c :: l=>if (c==44&&x.closed)=true then a :: io x [] l else io (x.see c.toNat) (a++[c]) l
def bC:Sc->List UInt8->Option Nat
 | _,[]=>none
 | x,c :: l=>if (x.see c.toNat).closed=true then some 1 else (bC (x.see c.toNat) l).map (·+1)
theorem wH:∀(l:List UInt8) (x:Sc) (n:Nat),bC x l=some n->1<=n/\n<=l.length
 | [],_,_,h=>by cases h
 | c :: l,x,n,h=>by
   unfold bC at h;split at h
   ·cases h;simp
   ·cases hb:bC (x.see c.toNat) l with
    | none=>rw[hb] at h;cases h
    | some m=>
      rw[hb] at h;cases h
      have:=wH l _ m hb;simp only[EQ];omega
theorem qV:∀(l:List UInt8) (x:Sc) (n:Nat) (a:List UInt8),x.closed=false->bC x l=some n->eQ x l=eQ ie (l.drop n)/\io x a l=io ie (a++l.take n) (l.drop n)
 | [],_,_,_,_,h=>by cases h
 | c :: l,x,n,a,hx,h=>by
   unfold bC at h
   have hp:io x a (c :: l)=io (x.see c.toNat) (a++[c]) l:=by
    rw[io,hx,Bool.and_false,if_neg (by decide)]
   rw[hp];split at h
   ·rename_i hc
    cases h
    rw[eQ,tO hc];exact⟨rfl,rfl⟩
   ·rename_i hc
    cases hb:bC (x.see c.toNat) l with
    | none=>rw[hb] at h;cases h
    | some m=>
      rw[hb] at h;cases h
      have:=qV l _ m (a++[c]) (by simpa using hc) hb;rw[eQ,this.1,this.2,FZ];exact⟨rfl,rfl⟩
theorem pP:∀(l:List UInt8) (x:Sc),x.closed=false->bC x l=none->(eQ x l).closed=false
 | [],x,hx,_=>hx
 | c :: l,x,hx,h=>by
   unfold bC at h;split at h
   ·cases h
   ·rename_i hc
    rw[eQ];refine pP l _ (by simpa using hc) ?_;cases hb:bC (x.see c.toNat) l with
    | none=>rfl
    | some m=>rw[hb] at h;cases h
def lE (a:List UInt8) (l:List UInt8):Option (List (List UInt8)):=
 match l with
 | []=>some [a]
 | c :: t=>
   if c=34\/c=40 then
    match bC (ie.see c.toNat) t with
    | none=>none
    | some n=>lE (a++c :: t.take n) (t.drop n)
   else if c=44 then (lE [] t).map (a :: ·)
   else lE (a++[c]) t
termination_by l.length
decreasing_by
 all_goals simp only[EQ,ES];omega
theorem see_z {c:UInt8} (h1:c≠34) (h2:c≠40):ie.see c.toNat=ie:=by
 have e1:¬(c.toNat:Int)=34:=fun h=>h1 (Fg.1 (by
  have:c.toNat=34:=by omega
  rw[this];rfl))
 have e2:¬(c.toNat:Int)=40:=fun h=>h2 (Fg.1 (by
  have:c.toNat=40:=by omega
  rw[this];rfl))
 unfold Sc.see ie;simp[e1,e2]
theorem see_o {c:UInt8} (h:c=34\/c=40):(ie.see c.toNat).closed=false:=by
 rcases h with rfl|rfl<;>decide
theorem mW:∀(n:Nat) (l a:List UInt8),l.length<=n->lE a l=if (eQ ie l).closed=true then some (io ie a l) else none
 | n,[],a,_=>by
   rw[lE];rfl
 | 0,c :: t,a,h=>by simp at h
 | n+1,c :: t,a,h=>by
   have ht:t.length<=n:=by simpa using h
   rw[lE];by_cases hc:c=34\/c=40
   ·rw[if_pos hc]
    have ho:=see_o hc
    have hp:io ie a (c :: t)=io (ie.see c.toNat) (a++[c]) t:=by
     rw[io];have:(c==44)=false:=by rcases hc with rfl|rfl<;>decide
     rw[this,Bool.false_and,if_neg (by decide)]
    rw[hp,eQ];cases hb:bC (ie.see c.toNat) t with
    | none=>
      rw[pP t _ ho hb];rfl
    | some m=>
      obtain⟨e1,e2⟩:=qV t _ m (a++[c]) ho hb;show lE (a++c :: t.take m) (t.drop m)=_;rw[e1,e2,mW n (t.drop m) _ (by rw[ES];omega),FZ];rfl
   ·rw[if_neg hc]
    have h1:c≠34:=fun h=>hc (Or.inl h);have h2:c≠40:=fun h=>hc (Or.inr h);have hz:=see_z h1 h2;rw[eQ,hz];by_cases h44:c=44
    ·rw[if_pos h44,mW n t [] ht]
     have hp:io ie a (c :: t)=a :: io ie [] t:=by
      rw[io,h44,if_pos (by decide)]
     rw[hp];split<;>rfl
    ·rw[if_neg h44,mW n t _ ht]
     have hp:io ie a (c :: t)=io ie (a++[c]) t:=by
      rw[io];have:(c==44)=false:=by rw[EJ];exact h44
      rw[this,Bool.false_and,if_neg (by decide),hz]
     rw[hp]
def ci (ps:List (List UInt8)):List ByteArray:=(ps.map fun p=>(⟨(cO p).toArray⟩:ByteArray)).filter fun e=>!e.toList.isEmpty
def cA (s:ByteArray):Option (List ByteArray):=
 if (eQ ie s.data.toList).closed=true then some (ci (io ie [] s.data.toList)) else none
theorem v8 (s:ByteArray):cA s=(lE [] s.data.toList).map ci:=by
 rw[mW _ _ _ (nR _)];unfold cA;split<;>rfl
end Go.Proofs.YthjbodpeckebiaaGreatDoor
-- LsW
namespace Go.Proofs.YthjbodpeckebiaaGreatDoor
open Go.RowKit
def Sc.row (x:Sc):Array Value:=#[.bool x.q,.bool x.s,.int .i64 (x.d:Int)]
theorem vR {w:World} {g:Nat} {q s:Bool} {d:Int} (h:af w g #[.bool q,.bool s,.int .i64 d] 222) (v:Bool):af (w.setCell ⟨g,0,none⟩ (.bool v)) g #[.bool v,.bool s,.int .i64 d] 222:=by
 have:=h.set 0 (.bool v);simpa using this
theorem rC {w:World} {g:Nat} {q s:Bool} {d:Int} (h:af w g #[.bool q,.bool s,.int .i64 d] 222) (v:Bool):af (w.setCell ⟨g,1,none⟩ (.bool v)) g #[.bool q,.bool v,.int .i64 d] 222:=by
 have:=h.set 1 (.bool v);simpa using this
theorem BE {w:World} {g:Nat} {q s:Bool} {d:Int} (h:af w g #[.bool q,.bool s,.int .i64 d] 222) (v:Int):af (w.setCell ⟨g,2,none⟩ (.int .i64 v)) g #[.bool q,.bool s,.int .i64 v] 222:=by
 have:=h.set 2 (.int .i64 v);simpa using this
theorem EI {w:World} {g:Nat} {q:Bool} {d:Nat} {c:Int} (h:af w g #[.bool q,.bool true,.int .i64 (d:Int)] 222) :
 Calls Tryz.prog 220 #[.pointer (some ⟨g,0,none⟩),.int .u8 c] w fun e w'=>e=.returned (.tuple #[])/\af w' g (Sc.see ⟨q,true,d⟩ c).row 222/\aa (fun k=>k=g) w w':=by
 have H:=lH h;obtain⟨k0,k1,k2⟩:=uq h 0 1 2;obtain⟨f0,f1,f2⟩:=vO h 0 1 2;simp at k0 k1 k2;have HV:Hid (Sc.see ⟨q,true,d⟩ c=⟨q,false,d⟩):=by show _=_;simp[Sc.see]
 clear h;go_enter Tryz.func220,Tryz.ntmps220
 go_wp2_with fail
 go_end0
 rw[HV.out];refine⟨rfl,?_,aa.setCell (P:=fun k=>k=g) (aa.refl _ _) rfl _⟩;have:=rC H.out false;simpa [Sc.row] using this
theorem Dh {w:World} {g:Nat} {d:Nat} {c:Int} (h:af w g #[.bool true,.bool false,.int .i64 (d:Int)] 222) (h1:c=92):
 Calls Tryz.prog 220 #[.pointer (some ⟨g,0,none⟩),.int .u8 c] w fun e w'=>e=.returned (.tuple #[])/\af w' g (Sc.see ⟨true,false,d⟩ c).row 222/\aa (fun k=>k=g) w w':=by
 have H:=lH h;obtain⟨k0,k1,k2⟩:=uq h 0 1 2;obtain⟨f0,f1,f2⟩:=vO h 0 1 2;simp at k0 k1 k2;subst h1;have HV:Hid (Sc.see ⟨true,false,d⟩ 92=⟨true,true,d⟩):=by show _=_;simp[Sc.see]
 clear h;go_enter Tryz.func220,Tryz.ntmps220
 go_wp2_with fail
 go_end0
 rw[HV.out];refine⟨rfl,?_,aa.setCell (P:=fun k=>k=g) (aa.refl _ _) rfl _⟩;have:=rC H.out true;simpa [Sc.row] using this
theorem CL {w:World} {g:Nat} {d:Nat} {c:Int} (h:af w g #[.bool false,.bool false,.int .i64 (d:Int)] 222) (h1:c=92) (hd:0<d):
 Calls Tryz.prog 220 #[.pointer (some ⟨g,0,none⟩),.int .u8 c] w fun e w'=>e=.returned (.tuple #[])/\af w' g (Sc.see ⟨false,false,d⟩ c).row 222/\aa (fun k=>k=g) w w':=by
 have H:=lH h;obtain⟨k0,k1,k2⟩:=uq h 0 1 2;obtain⟨f0,f1,f2⟩:=vO h 0 1 2;simp at k0 k1 k2;have d1:decide ((0:Int)<(d:Int))=true:=dT (by omega);have HV:Hid (Sc.see ⟨false,false,d⟩ c=⟨false,true,d⟩):=by show _=_;rw[h1];simp[Sc.see,hd]
 subst h1;clear h;go_enter Tryz.func220,Tryz.ntmps220
 go_wp2_with fail
 go_end0
 rw[HV.out];refine⟨rfl,?_,aa.setCell (P:=fun k=>k=g) (aa.refl _ _) rfl _⟩;have:=rC H.out true;simpa [Sc.row] using this
theorem Dv {w:World} {g:Nat} {c:Int} (h:af w g #[.bool false,.bool false,.int .i64 0] 222) (h1:c=92):
 Calls Tryz.prog 220 #[.pointer (some ⟨g,0,none⟩),.int .u8 c] w fun e w'=>e=.returned (.tuple #[])/\af w' g (Sc.see ⟨false,false,0⟩ c).row 222/\aa (fun k=>k=g) w w':=by
 have H:=lH h;obtain⟨k0,k1,k2⟩:=uq h 0 1 2;obtain⟨f0,f1,f2⟩:=vO h 0 1 2;simp at k0 k1 k2;subst h1;have HV:Hid (Sc.see ⟨false,false,0⟩ 92=⟨false,false,0⟩):=by show _=_;simp[Sc.see]
 clear h;go_enter Tryz.func220,Tryz.ntmps220
 go_wp2_with fail
 go_end0
 rw[HV.out];refine⟨rfl,?_,aa.setCell (P:=fun k=>k=g) (aa.refl _ _) rfl _⟩;have:=rC H.out false;simpa [Sc.row] using this
theorem Ew {w:World} {g:Nat} {d:Nat} {c:Int} (h:af w g #[.bool true,.bool false,.int .i64 (d:Int)] 222) (h1:c=34):
 Calls Tryz.prog 220 #[.pointer (some ⟨g,0,none⟩),.int .u8 c] w fun e w'=>e=.returned (.tuple #[])/\af w' g (Sc.see ⟨true,false,d⟩ c).row 222/\aa (fun k=>k=g) w w':=by
 have H:=lH h;obtain⟨k0,k1,k2⟩:=uq h 0 1 2;obtain⟨f0,f1,f2⟩:=vO h 0 1 2;simp at k0 k1 k2;subst h1;have HV:Hid (Sc.see ⟨true,false,d⟩ 34=⟨false,false,d⟩):=by show _=_;simp[Sc.see]
 clear h;go_enter Tryz.func220,Tryz.ntmps220
 go_wp2_with fail
 go_end0
 rw[HV.out];refine⟨rfl,?_,aa.setCell (P:=fun k=>k=g) (aa.refl _ _) rfl _⟩;have:=vR H.out false;simpa [Sc.row] using this
theorem EE {w:World} {g:Nat} {d:Nat} {c:Int} (h:af w g #[.bool true,.bool false,.int .i64 (d:Int)] 222) (h1:c≠92) (h2:c≠34):
 Calls Tryz.prog 220 #[.pointer (some ⟨g,0,none⟩),.int .u8 c] w fun e w'=>e=.returned (.tuple #[])/\af w' g (Sc.see ⟨true,false,d⟩ c).row 222/\aa (fun k=>k=g) w w':=by
 have H:=lH h;obtain⟨k0,k1,k2⟩:=uq h 0 1 2;obtain⟨f0,f1,f2⟩:=vO h 0 1 2;simp at k0 k1 k2;have HV:Hid (Sc.see ⟨true,false,d⟩ c=⟨true,false,d⟩):=by show _=_;unfold Sc.see;simp[h1,h2]
 have x92a:(c==92)=false:=by rw[EJ];exact h1
 have x92b:(c != 92)=true:=by rw[FP];exact h1
 have x92d:decide (c=92)=false:=dF h1;have x34a:(c==34)=false:=by rw[EJ];exact h2
 have x34b:(c != 34)=true:=by rw[FP];exact h2
 have x34d:decide (c=34)=false:=dF h2;clear h h1 h2;go_enter Tryz.func220,Tryz.ntmps220
 go_wp2_with fail
 go_end0
 rw[HV.out];refine⟨rfl,?_,aa.setCell (P:=fun k=>k=g) (aa.refl _ _) rfl _⟩;have:=vR H.out true;simpa [Sc.row] using this
theorem EA {w:World} {g:Nat} {d:Nat} {c:Int} (h:af w g #[.bool false,.bool false,.int .i64 (d:Int)] 222) (h1:c=40) (hd:d<=1000000):
 Calls Tryz.prog 220 #[.pointer (some ⟨g,0,none⟩),.int .u8 c] w fun e w'=>e=.returned (.tuple #[])/\af w' g (Sc.see ⟨false,false,d⟩ c).row 222/\aa (fun k=>k=g) w w':=by
 have H:=lH h;obtain⟨k0,k1,k2⟩:=uq h 0 1 2;obtain⟨f0,f1,f2⟩:=vO h 0 1 2;simp at k0 k1 k2;subst h1;have HV:Hid (Sc.see ⟨false,false,d⟩ 40=⟨false,false,(d+1)⟩):=by show _=_;simp[Sc.see]
 clear h;go_enter Tryz.func220,Tryz.ntmps220
 go_wp2_with fail
 go_end0
 rw[HV.out];refine⟨rfl,?_,aa.setCell (P:=fun k=>k=g) (aa.refl _ _) rfl _⟩;have:=BE H.out ((d:Int)+1);simpa [Sc.row] using this
theorem Ej {w:World} {g:Nat} {d:Nat} {c:Int} (h:af w g #[.bool false,.bool false,.int .i64 ((d+1:Nat):Int)] 222) (h1:c=41) (hd:d<=1000000):
 Calls Tryz.prog 220 #[.pointer (some ⟨g,0,none⟩),.int .u8 c] w fun e w'=>e=.returned (.tuple #[])/\af w' g (Sc.see ⟨false,false,(d+1)⟩ c).row 222/\aa (fun k=>k=g) w w':=by
 have H:=lH h;obtain⟨k0,k1,k2⟩:=uq h 0 1 2;obtain⟨f0,f1,f2⟩:=vO h 0 1 2;simp at k0 k1 k2;have d1:decide ((0:Int)<((d+1:Nat):Int))=true:=dT (by omega);subst h1;have HV:Hid (Sc.see ⟨false,false,(d+1)⟩ 41=⟨false,false,d⟩):=by show _=_;simp[Sc.see]
 clear h;go_enter Tryz.func220,Tryz.ntmps220
 go_wp2_with fail
 go_end0
 rw[HV.out];refine⟨rfl,?_,aa.setCell (P:=fun k=>k=g) (aa.refl _ _) rfl _⟩;have:=BE H.out (d:Int);simpa [Sc.row] using this
theorem Ef {w:World} {g:Nat} {d:Nat} {c:Int} (h:af w g #[.bool false,.bool false,.int .i64 ((d+1:Nat):Int)] 222) (h1:c≠92) (h2:c≠40) (h3:c≠41) (hd:d<=1000000):
 Calls Tryz.prog 220 #[.pointer (some ⟨g,0,none⟩),.int .u8 c] w fun e w'=>e=.returned (.tuple #[])/\af w' g (Sc.see ⟨false,false,(d+1)⟩ c).row 222/\aa (fun k=>k=g) w w':=by
 have H:=lH h;obtain⟨k0,k1,k2⟩:=uq h 0 1 2;obtain⟨f0,f1,f2⟩:=vO h 0 1 2;simp at k0 k1 k2;have HV:Hid (Sc.see ⟨false,false,(d+1)⟩ c=⟨false,false,(d+1)⟩):=by show _=_;unfold Sc.see;simp[h1,h2,h3]
 have x92a:(c==92)=false:=by rw[EJ];exact h1
 have x92b:(c != 92)=true:=by rw[FP];exact h1
 have x92d:decide (c=92)=false:=dF h1;have x40a:(c==40)=false:=by rw[EJ];exact h2
 have x40b:(c != 40)=true:=by rw[FP];exact h2
 have x40d:decide (c=40)=false:=dF h2;have x41a:(c==41)=false:=by rw[EJ];exact h3
 have x41b:(c != 41)=true:=by rw[FP];exact h3
 have x41d:decide (c=41)=false:=dF h3;have d1:decide ((0:Int)<((d+1:Nat):Int))=true:=dT (by omega);have d2:(((d+1:Nat):Int)==0)=false:=by rw[EJ];omega
 clear h h1 h2 h3;go_enter Tryz.func220,Tryz.ntmps220
 go_wp2_with fail
 go_end0
 rw[HV.out];exact⟨rfl,H.out,aa.refl _ _⟩
theorem D9 {w:World} {g:Nat} {c:Int} (h:af w g #[.bool false,.bool false,.int .i64 0] 222) (h1:c=34):
 Calls Tryz.prog 220 #[.pointer (some ⟨g,0,none⟩),.int .u8 c] w fun e w'=>e=.returned (.tuple #[])/\af w' g (Sc.see ⟨false,false,0⟩ c).row 222/\aa (fun k=>k=g) w w':=by
 have H:=lH h;obtain⟨k0,k1,k2⟩:=uq h 0 1 2;obtain⟨f0,f1,f2⟩:=vO h 0 1 2;simp at k0 k1 k2;subst h1;have HV:Hid (Sc.see ⟨false,false,0⟩ 34=⟨true,false,0⟩):=by show _=_;simp[Sc.see]
 clear h;go_enter Tryz.func220,Tryz.ntmps220
 go_wp2_with fail
 go_end0
 rw[HV.out];refine⟨rfl,?_,aa.setCell (P:=fun k=>k=g) (aa.refl _ _) rfl _⟩;have:=vR H.out true;simpa [Sc.row] using this
theorem Ed {w:World} {g:Nat} {c:Int} (h:af w g #[.bool false,.bool false,.int .i64 0] 222) (h1:c≠92) (h2:c≠40) (h3:c≠34):
 Calls Tryz.prog 220 #[.pointer (some ⟨g,0,none⟩),.int .u8 c] w fun e w'=>e=.returned (.tuple #[])/\af w' g (Sc.see ⟨false,false,0⟩ c).row 222/\aa (fun k=>k=g) w w':=by
 have H:=lH h;obtain⟨k0,k1,k2⟩:=uq h 0 1 2;obtain⟨f0,f1,f2⟩:=vO h 0 1 2;simp at k0 k1 k2;have HV:Hid (Sc.see ⟨false,false,0⟩ c=⟨false,false,0⟩):=by show _=_;unfold Sc.see;simp[h1,h2,h3]
 have x92a:(c==92)=false:=by rw[EJ];exact h1
 have x92b:(c != 92)=true:=by rw[FP];exact h1
 have x92d:decide (c=92)=false:=dF h1;have x40a:(c==40)=false:=by rw[EJ];exact h2
 have x40b:(c != 40)=true:=by rw[FP];exact h2
 have x40d:decide (c=40)=false:=dF h2;have x34a:(c==34)=false:=by rw[EJ];exact h3
 have x34b:(c != 34)=true:=by rw[FP];exact h3
 have x34d:decide (c=34)=false:=dF h3;clear h h1 h2 h3;go_enter Tryz.func220,Tryz.ntmps220
 go_wp2_with fail
 go_end0
 rw[HV.out];exact⟨rfl,H.out,aa.refl _ _⟩
theorem q8 {w:World} {g:Nat} (x:Sc) (c:Int) (h:af w g x.row 222) (hd:x.d<=1000000):
 Calls Tryz.prog 220 #[.pointer (some ⟨g,0,none⟩),.int .u8 c] w fun e w'=>e=.returned (.tuple #[])/\af w' g (x.see c).row 222/\aa (fun k=>k=g) w w':=by
 obtain⟨q,s,d⟩:=x;simp only at hd;cases s with
 | true=>exact EI h
 | false=>
   by_cases h92:c=92
   ·cases q with
    | true=>exact Dh h h92
    | false=>
      cases d with
      | zero=>exact Dv h h92
      | succ d=>exact CL h h92 (Nat.succ_pos d)
   cases q with
   | true=>
     by_cases h34:c=34
     ·exact Ew h h34
     ·exact EE h h92 h34
   | false=>
     by_cases h40:c=40
     ·exact EA h h40 hd
     cases d with
     | zero=>
       by_cases h34:c=34
       ·exact D9 h h34
       ·exact Ed h h92 h40 h34
     | succ d=>
       by_cases h41:c=41
       ·exact Ej h h41 (by omega)
       ·exact Ef h h92 h40 h41 (by omega)
theorem nu {w:World} {g:Nat} (x:Sc) (h:af w g x.row 222):
 Calls Tryz.prog 221 #[.pointer (some ⟨g,0,none⟩)] w fun e w'=>e=.returned (.bool x.closed)/\w=w':=by
 obtain⟨q,s,d⟩:=x;obtain⟨k0,k1,k2⟩:=uq h 0 1 2;simp[Sc.row] at k0 k1 k2;obtain⟨Z,hZ⟩:∃Z,Z=((d:Int)==0):=⟨_,rfl⟩;have hz:((d:Int)==0)=Z:=hZ.symm
 have HV:Hid ((⟨q,s,d⟩:Sc).closed=(!q&&(!s&&Z))):=by
  have e:(d==0)=((d:Int)==0):=by rw[F6,FA,FA];omega
  show _=_;unfold Sc.closed;rw[hZ,<-e]
 clear hZ h;cases q<;>cases s<;>cases Z
 all_goals
  go_enter Tryz.func221,Tryz.ntmps221
  go_wp2_with fail
  go_ret;rw[HV.out];exact⟨rfl,rfl⟩
theorem DO (x:Sc) (c:Int):(x.see c).d<=x.d+1:=by
 obtain⟨q,s,d⟩:=x;unfold Sc.see;simp only;repeat' split
 all_goals first|exact FV _|exact nR _|exact EN _|exact nT (Nat.sub_le _ _) (FV _)
theorem aL (s:ByteArray) (k:Nat) (h:k<s.size):∃c:UInt8,bt s k=c.toNat/\s.data.toList.drop k=c :: s.data.toList.drop (k+1):=by
 refine⟨s[k]'h,aA s k h,?_⟩;have:=Fa (l:=s.data.toList) (i:=k) (by simpa using h);exact this
theorem qQ (s:ByteArray):s.data.toList.drop s.size=[]:=E6 (by simp)
theorem tk (s:ByteArray) (hs:s.size<=1000000) (w:World):
 Calls Tryz.prog 185 #[.string s] w fun e w'=>e=.returned (.bool (eQ ie s.data.toList).closed)/\Below w.heap.size w w':=by
 obtain⟨F,hF⟩:∃F,F=eQ ie s.data.toList:=⟨_,rfl⟩;have HF:=lH hF;rw[<-hF];clear hF;have hsi:(s.size:Int)<=1000000:=by omega
 go_enter Tryz.func185,Tryz.ntmps185
 go_wp2_with fail
 go_loopw [7] (fun i wr=>∃(k:Nat) (x:Sc),k<=s.size/\i=.int .i64 k/\eQ x (s.data.toList.drop k)=F/\x.d<=k/\af wr w.heap.size x.row 222/\Below w.heap.size w wr) (fun i _=>s.size - (intOf i).toNat)
 case atStart=>exact⟨0,ie,EN _,rfl,HF.out.symm,nR _,af.new _ _ _,(EK _ _).alloc (nR _) _⟩
 case round=>
  obtain⟨k,x,hk,rfl,hx,hd,hb,hbel⟩:=hrel;have HX:=lH hx;have HB:=lH hb;have HBE:=lH hbel;have HD:=lH hd;clear hx hb hbel;by_cases hlt:k<s.size
  ·have hix:=aj s k hlt
   obtain⟨c,hc,hdr⟩:=aL s k hlt;obtain⟨b,hb⟩:∃b,b=bt s k:=⟨_,rfl⟩;rw[<-hb] at hix
   have HN:Hid (eQ (x.see b) (s.data.toList.drop (k+1))=F):=by
    show _=_;rw[<-HX.out,hdr,hb,hc];rfl
   have hk1:decide ((k:Int)<(s.size:Int))=true:=dT (by omega);clear hc hdr hb;go_wp2_with (go_at_call 220;refine(q8 x b HB.out (nT HD.out (nT hk hs))).mono ?_;rintro e' w' ⟨rfl,hb',ht'⟩;have HB':=lH hb';have HBE':=lH (HBE.out.trans (ht'.below (B:=w.heap.size) (fun j _ hj=>by rw[hj];exact nR _) HBE.out.size));clear hb' ht')
   go_roundw
   case rel=>exact⟨k+1,x.see b,hlt,by go_num,HN.out,nT (DO x b) (Nat.succ_le_succ HD.out),HB'.out,HBE'.out⟩
   case measure=>simp[intOf];omega
  ·have hk1:decide ((k:Int)<(s.size:Int))=false:=dF (by omega)
   have hkn:k=s.size:=by omega
   have HE:Hid (x=F):=by
    show x=F;rw[<-HX.out,hkn,qQ];rfl
   clear hkn;go_wp2_with (go_at_call 221;refine(nu x HB.out).mono ?_;rintro e' w' ⟨rfl,rfl⟩)
   go_ret;rw[HE.out];exact⟨rfl,HBE.out⟩
end Go.Proofs.YthjbodpeckebiaaGreatDoor
-- HostP
namespace Go.Proofs.YthjbodpeckebiaaGreatDoor
open Go.RowKit
def cL (c:Int):Bool:=decide (48<=c/\c<=57\/65<=c/\c<=70\/97<=c/\c<=102)
def eX (c:Int):Bool:=decide (c=45\/c=46\/c=95\/c=126\/c=33\/c=36\/c=38\/c=39\/c=40\/c=41\/c=42\/c=43\/c=44\/c=59\/c=61)
def bp (c:Int):Bool:=decide (48<=c/\c<=57\/65<=c/\c<=90\/97<=c/\c<=122)||eX c
def us (b:UInt8):Bool:=cL b.toNat
def eU (b:UInt8):Bool:=bp b.toNat
def mQ (c:Int):Bool:=cL c||decide (c=58\/c=46)
def lL (b:UInt8):Bool:=mQ b.toNat
def dj:Nat->List UInt8->Bool
 | k,[]=>k==0
 | 0,c :: t=>if c=37 then dj 2 t else if eU c=true then dj 0 t else false
 | k+1,c :: t=>if us c=true then dj k t else false
def jS (l:List UInt8):Bool:=!l.isEmpty&&dj 0 l
def eR:List UInt8->Option Nat
 | []=>some 0
 | c :: t=>if c=37 then
     (
      match t with
      | a :: b :: r=>if us a=true/\us b=true then (eR r).map (·+3) else none
      | _=>none)
   else if eU c=true then (eR t).map (·+1) else some 0
def jR (l:List UInt8):Bool:=
 match l with
 | []=>false
 | c :: t=>c==91&&(t.getLast? == some 93&&(!t.dropLast.isEmpty&&t.dropLast.all lL))
def jZ (l:List UInt8):Nat:=(l.takeWhile lL).length
def aJ (l:List UInt8):Nat:=
 match l with
 | []=>0
 | c :: t=>if c=91 then (if jZ t=0 then 0 else if t[jZ t]? = some 93 then jZ t+2 else 0) else (eR (c :: t)).getD 0
def eY (l:List UInt8):Nat×Int×Int:=
 if l.isEmpty then (0,0,2)
 else if aJ l=0 then (0,0,3)
 else if aJ l=l.length then (l.length,80,0)
 else if l[aJ l]?≠some 58 then (0,0,3)
 else if (am (l.drop (aJ l+1)) 10 65535).2=5 then (0,0,5)
 else if (am (l.drop (aJ l+1)) 10 65535).2≠0 then (0,0,3)
 else (aJ l,(am (l.drop (aJ l+1)) 10 65535).1,0)
def jb (l:List UInt8) (I J:Int):Nat×Int×Int:=
 if l.isEmpty then (0,0,2)
 else if I<J\/I<0 then (if (jS l||jR l)=true then (l.length,80,0) else (0,0,3))
 else if (jS (l.take I.toNat)||jR (l.take I.toNat))=true then
  (
   if (am (l.drop (I.toNat+1)) 10 65535).2=5 then (0,0,5)
   else if (am (l.drop (I.toNat+1)) 10 65535).2≠0 then (0,0,3)
   else (I.toNat,(am (l.drop (I.toNat+1)) 10 65535).1,0))
 else (0,0,3)
theorem iN {c:UInt8} (h1:us c=false) (h2:eU c=false) (h3:c≠37):∀(l:List UInt8) (k:Nat),c∈l->dj k l=false
 | [],_,h=>by cases h
 | b :: t,0,h=>by
   rw[dj];rcases GT.1 h with e|h
   ·subst e
    rw[if_neg h3,if_neg (by rw[h2];decide)]
   ·split
    ·exact iN h1 h2 h3 t 2 h
    ·split
     ·exact iN h1 h2 h3 t 0 h
     ·rfl
 | b :: t,k+1,h=>by
   rw[dj];rcases GT.1 h with e|h
   ·subst e
    rw[if_neg (by rw[h1];decide)]
   ·split
    ·exact iN h1 h2 h3 t k h
    ·rfl
theorem ly:∀(m:Nat) (l:List UInt8) (n:Nat),l.length<=m->eR l=some n->n<=l.length/\dj 0 (l.take n)=true
 | _,[],n,_,h=>by rw[eR] at h;cases h;exact⟨nR _,rfl⟩
 | 0,c :: t,_,hm,_=>by simp at hm
 | m+1,c :: t,n,hm,h=>by
   have ht:t.length<=m:=by simpa using hm
   rw[eR.eq_def] at h;simp only at h;by_cases h37:c=37
   ·rw[if_pos h37] at h
    match t,ht,h with
    | a :: b :: r,ht,h=>
      simp only at h;by_cases hh:us a=true/\us b=true
      ·rw[if_pos hh] at h
       cases hr:eR r with
       | none=>rw[hr] at h;cases h
       | some q=>
         rw[hr] at h;cases h
         have:=ly m r q (by simp at ht;omega) hr;refine⟨by simp only[EQ];omega,?_⟩;show dj 0 (c :: a :: b :: r.take q)=true;rw[dj,if_pos h37,dj,if_pos hh.1,dj,if_pos hh.2];exact this.2
      ·rw[if_neg hh] at h;cases h
    | [],_,h=>cases h
    | [_],_,h=>cases h
   ·rw[if_neg h37] at h
    by_cases hp:eU c=true
    ·rw[if_pos hp] at h
     cases hr:eR t with
     | none=>rw[hr] at h;cases h
     | some q=>
       rw[hr] at h;cases h
       have:=ly m t q ht hr;refine⟨by simp only[EQ];omega,?_⟩;show dj 0 (c :: t.take q)=true;rw[dj,if_neg h37,if_pos hp];exact this.2
    ·rw[if_neg hp] at h
     cases h
     exact⟨EN _,rfl⟩
theorem rO:∀(m:Nat) (p q:List UInt8),p.length<=m->dj 0 p=true->(∀c,q.head? = some c->eU c=false/\c≠37)->eR (p++q)=some p.length
 | _,[],q,_,_,hq=>by
   cases q with
   | nil=>rw[Fp,eR];rfl
   | cons c t=>
     have:=hq c rfl;rw[GH,eR.eq_def];simp only;rw[if_neg this.2,if_neg (by rw[this.1];decide)];rfl
 | 0,c :: t,_,hm,_,_=>by simp at hm
 | m+1,c :: t,q,hm,h,hq=>by
   have ht:t.length<=m:=by simpa using hm
   rw[dj] at h;rw[F3,eR.eq_def];simp only;by_cases h37:c=37
   ·rw[if_pos h37] at h ⊢
    match t,ht,h with
    | [],_,h=>rw[dj] at h;cases h
    | [a],_,h=>
      rw[dj] at h;split at h
      ·rw[dj] at h;cases h
      ·cases h
    | a :: b :: r,ht,h=>
      rw[dj] at h;split at h
      ·rename_i ha
       rw[dj] at h;split at h
       ·rename_i hb
        have:=rO m r q (by simp at ht;omega) h hq;simp only[F3];rw[if_pos ⟨ha,hb⟩,this];rfl
       ·cases h
      ·cases h
   ·rw[if_neg h37] at h ⊢
    split at h
    ·rename_i hp
     rw[if_pos hp,rO m t q ht h hq];rfl
    ·cases h
theorem jN {α:Type} {f:α->Bool}:∀(p q:List α),(∀b∈p,f b=true)->(∀c,q.head? = some c->f c=false)->(p++q).takeWhile f=p
 | [],q,_,hq=>by
   cases q with
   | nil=>rfl
   | cons c t=>rw[GH,Gi,hq c rfl];rfl
 | b :: p,q,hp,hq=>by
   rw[F3,Gi,hp b (by simp),if_pos rfl,jN p q (fun x hx=>hp x (by simp[hx])) hq]
theorem t7 {l:List UInt8} {a:UInt8} (h:l.getLast? = some a):l.dropLast++[a]=l:=by
 rcases List.eq_nil_or_concat l with rfl|⟨p,b,rfl⟩
 ·cases h
 ·rw[List.concat_eq_append] at h ⊢
  have:b=a:=by simpa using h
  rw[List.dropLast_concat,this]
theorem wE {l:List UInt8} (h:jR l=true):∃t,l=91 :: (t++[93])/\t≠[]/\∀b∈t,lL b=true:=by
 cases l with
 | nil=>cases h
 | cons c t=>
   unfold jR at h;simp only[Fq,FA,Bool.not_eq_true',Gz] at h;obtain⟨rfl,h1,h2,h3⟩:=h;refine⟨t.dropLast,?_,?_,h3⟩
   ·rw[t7 h1]
   ·intro e
    rw[e] at h2;exact absurd h2 (by decide)
theorem Cf {t:List UInt8} (h1:t≠[]) (h2:∀b∈t,lL b=true):jR (91 :: (t++[93]))=true:=by
 unfold jR;simp only[Fq,FA,Bool.not_eq_true',Gz];refine⟨trivial,by simp,?_,?_⟩
 ·rw[List.dropLast_concat]
  cases t with
  | nil=>exact absurd rfl h1
  | cons _ _=>rfl
 ·rw[List.dropLast_concat]
  exact h2
theorem jW {l:List UInt8} {n:Nat} (h:aJ l=n) (h0:n≠0):n<=l.length/\(jS (l.take n)||jR (l.take n))=true:=by
 cases l with
 | nil=>exact absurd h.symm h0
 | cons c t=>
   unfold aJ at h;simp only at h;by_cases h91:c=91
   ·rw[if_pos h91] at h
    split at h
    ·exact absurd h.symm h0
    rename_i hl0;split at h
    ·rename_i hl1
     subst h
     have hlt:jZ t<t.length:=by
      rcases FM (jZ t) t.length with hh|hh
      ·exact hh
      ·rw[FO hh] at hl1;cases hl1
     refine⟨by simp only[EQ];omega,?_⟩;rw[FU];right
     have e:(c :: t).take (jZ t+2)=91 :: (t.takeWhile lL++[93]):=by
      rw[h91,Ft,List.take_add_one,hl1];congr 2
      unfold jZ;exact(List.prefix_iff_eq_take.1 (List.takeWhile_prefix _)).symm
     rw[e];refine Cf (fun e=>hl0 (by unfold jZ;rw[e];rfl)) (fun b hb=>?_);have:=List.all_takeWhile (p:=lL) (l:=t);rw[Gz] at this;exact this b hb
    ·exact absurd h.symm h0
   ·rw[if_neg h91] at h
    cases hr:eR (c :: t) with
    | none=>rw[hr] at h;exact absurd h.symm h0
    | some q=>
      rw[hr] at h;have hq:q=n:=h;subst hq;have:=ly _ _ _ (nR _) hr;refine⟨this.1,?_⟩;rw[FU];left
      unfold jS;rw[this.2,Bool.and_true];cases hq:q with
      | zero=>exact absurd hq h0
      | succ _=>rfl
theorem sZ {p q:List UInt8} (h:(jS p||jR p)=true) (hq:∀c,q.head? = some c->c=58):aJ (p++q)=p.length/\p.length≠0:=by
 rw[FU] at h;rcases h with h|h
 ·unfold jS at h
  rw[Fq] at h;cases p with
  | nil=>exact absurd h.1 (by decide)
  | cons c t=>
    have h91:c≠91:=by
     rintro rfl;have:=iN (c:=91) (by decide) (by decide) (by decide) (91 :: t) 0 (by simp);rw[this] at h;exact absurd h.2 (by decide)
    refine⟨?_,by simp⟩;show (if c=91 then _ else (eR ((c :: t)++q)).getD 0)=_;rw[if_neg h91,rO _ (c :: t) q (nR _) h.2 (fun d hd=>by rw[hq d hd];exact⟨by decide,by decide⟩)];rfl
 ·obtain⟨t,rfl,h1,h2⟩:=wE h
  refine⟨?_,by simp⟩
  have e:jZ (t++[93]++q)=t.length:=by
   unfold jZ;rw[FZ,jN t ([93]++q) h2 (fun c hc=>by cases hc;decide)]
  show aJ (91 :: (t++[93]++q))=_;unfold aJ;simp only;rw[if_pos trivial,e,if_neg (fun(e:t.length=0)=>h1 (EU e)),if_pos (by rw[FZ,List.getElem?_append_right (nR _),Nat.sub_self];rfl)];simp
theorem ol {l:List UInt8} {c:UInt8} (h:c∈l) (hc:dI 10 c=false) (most:Int):am l 10 most=(0,3):=by
 unfold am
 have h1:l.isEmpty=false:=by cases l with
  | nil=>cases h
  | cons _ _=>rfl
 have h2:l.all (dI 10)=false:=by
  rw[List.all_eq_false];exact⟨c,h,by rw[hc];decide⟩
 rw[h1,h2];rfl
theorem C2 {p:List UInt8} (h:jS p=true) {c:UInt8} (h1:us c=false) (h2:eU c=false) (h3:c≠37):c∉p:=by
 intro hc;unfold jS at h;rw[iN h1 h2 h3 p 0 hc,Bool.and_false] at h;cases h
theorem Bv (l:List UInt8) (I J:Int) (hI:(I=-1/\∀k:Nat,l[k]?≠some 58)\/∃i:Nat,I=i/\l[i]? = some 58/\∀k:Nat,i<k->l[k]?≠some 58)
 (hJ:(J=-1/\∀k:Nat,l[k]?≠some 93)\/∃j:Nat,J=j/\l[j]? = some 93/\∀k:Nat,k<j->l[k]?≠some 93):jb l I J=eY l:=by
 unfold jb eY;cases he:l.isEmpty
 rotate_left
 ·rfl
 simp only[FX,if_false];by_cases hno:I<J\/I<0
 ·rw[if_pos hno]
  by_cases hn:(jS l||jR l)=true
  ·rw[if_pos hn]
   have:=sZ (q:=[]) hn (fun c hc=>by cases hc);rw[Fp] at this;rw[if_neg (by rw[this.1];exact this.2),if_pos this.1]
  ·rw[if_neg hn]
   by_cases h0:aJ l=0
   ·rw[if_pos h0]
   rw[if_neg h0];obtain⟨hle,hok⟩:=jW rfl h0;by_cases hlen:aJ l=l.length
   ·rw[hlen,F8] at hok
    exact absurd hok hn
   rw[if_neg hlen];by_cases h58:l[aJ l]? = some 58
   ·rw[if_neg (by rw[h58];simp)]
    rcases hI with ⟨_,hI⟩|⟨i,rfl,hi,hI⟩
    ·exact absurd h58 (hI _)
    have hni:aJ l<=i:=by
     rcases FM i (aJ l) with h|h
     ·exact absurd h58 (hI _ h)
     ·exact h
    rcases hJ with ⟨rfl,_⟩|⟨j,rfl,hj,hJ⟩
    ·omega
    have hij:i<j:=by omega
    have hbad:(93:UInt8)∈l.drop (aJ l+1):=by
     rw[GB];exact⟨j - (aJ l+1),by rw[Gf,show aJ l+1+(j - (aJ l+1))=j by omega];exact hj⟩
    rw[ol hbad (by decide)];rfl
   ·rw[if_pos h58]
 ·rw[if_neg hno]
  rcases hI with ⟨rfl,_⟩|⟨i,rfl,hi,hI⟩
  ·omega
  have hil:i<l.length:=by
   rcases FM i l.length with h|h
   ·exact h
   ·rw[FO h] at hi;cases hi
  rw[EX];have hsp:l=l.take i++l.drop i:=(Gp i l).symm;have hhd:(l.drop i).head? = some 58:=by rw[List.head?_drop];exact hi
  by_cases hn:(jS (l.take i)||jR (l.take i))=true
  ·rw[if_pos hn]
   have:=sZ (q:=l.drop i) hn (fun c hc=>by rw[hhd] at hc;exact(Gs hc).symm);rw[<-hsp,Ge,Nat.min_eq_left (by omega)] at this;rw[this.1,if_neg this.2,if_neg (by omega:¬i=l.length),if_neg (show ¬(l[i]?≠some 58) by rw[hi];simp)]
  ·rw[if_neg hn]
   by_cases h0:aJ l=0
   ·rw[if_pos h0]
   rw[if_neg h0];obtain⟨hle,hok⟩:=jW rfl h0;by_cases hlen:aJ l=l.length
   ·exfalso
    rw[hlen,F8,FU] at hok;rcases hok with h|h
    ·exact C2 h (c:=58) (by decide) (by decide) (by decide) (GB.2 ⟨i,hi⟩)
    ·obtain⟨t,rfl,h1,h2⟩:=wE h
     have hlast:(91 :: (t++[93]))[t.length+1]? = some (93:UInt8):=by simp
     have hne:i≠t.length+1:=by
      rintro rfl;rw[hlast] at hi;exact absurd (Gs hi) (by decide)
     have hit:i<t.length+1:=by simp at hil;omega
     rcases hJ with ⟨rfl,hJ⟩|⟨j,rfl,hj,hJ⟩
     ·exact hJ _ hlast
     have hij:j<=i:=by omega
     cases j with
     | zero=>simp at hj
     | succ j=>
       rw[FW,List.getElem?_append_left (by omega)] at hj;have:=h2 93 (GB.2 ⟨j,hj⟩);exact absurd this (by decide)
   rw[if_neg hlen];by_cases h58:l[aJ l]? = some 58
   ·rw[if_neg (by rw[h58];simp)]
    have hni:aJ l<=i:=by
     rcases FM i (aJ l) with h|h
     ·exact absurd h58 (hI _ h)
     ·exact h
    rcases FM (aJ l) i with hlt|hge
    ·have hbad:(58:UInt8)∈l.drop (aJ l+1):=by
      rw[GB];exact⟨i - (aJ l+1),by rw[Gf,show aJ l+1+(i - (aJ l+1))=i by omega];exact hi⟩
     rw[ol hbad (by decide)];rfl
    ·have:aJ l=i:=by omega
     rw[this] at hok;exact absurd hok hn
   ·rw[if_pos h58]
end Go.Proofs.YthjbodpeckebiaaGreatDoor
-- NumR
namespace Go.Proofs.YthjbodpeckebiaaGreatDoor
open Go.RowKit
def iL (r:Int):Int:=if 48<=r/\r<=57 then r - 48 else if 65<=r/\r<=70 then r - 55 else if 97<=r/\r<=102 then r - 87 else 99
theorem dk (r:Int) (h0:0<=r) (h1:r<=255) (w:World):Calls Tryz.prog 130 #[.int .u8 r] w fun e w'=>e=.returned (.int .i64 (iL r))/\w=w':=by
 rcases (by omega:r<48\/(48<=r/\r<=57)\/(57<r/\r<65)\/(65<=r/\r<=70)\/(70<r/\r<97)\/(97<=r/\r<=102)\/102<r) with h|⟨h,h'⟩|⟨h,h'⟩|⟨h,h'⟩|⟨h,h'⟩|⟨h,h'⟩|h
 ·have HV:Hid (iL r=99):=by show iL r=99;unfold iL;repeat' split;all_goals omega
  go_enter Tryz.func130,Tryz.ntmps130
  go_wp2_with fail
  go_ret;rw[HV.out];exact⟨rfl,rfl⟩
 ·have HV:Hid (iL r=r - 48):=by show iL r=r - 48;unfold iL;repeat' split;all_goals omega
  go_enter Tryz.func130,Tryz.ntmps130
  go_wp2_with fail
  go_ret;rw[HV.out];exact⟨rfl,rfl⟩
 ·have HV:Hid (iL r=99):=by show iL r=99;unfold iL;repeat' split;all_goals omega
  go_enter Tryz.func130,Tryz.ntmps130
  go_wp2_with fail
  go_ret;rw[HV.out];exact⟨rfl,rfl⟩
 ·have HV:Hid (iL r=r - 55):=by show iL r=r - 55;unfold iL;repeat' split;all_goals omega
  go_enter Tryz.func130,Tryz.ntmps130
  go_wp2_with fail
  go_ret;rw[HV.out];exact⟨rfl,rfl⟩
 ·have HV:Hid (iL r=99):=by show iL r=99;unfold iL;repeat' split;all_goals omega
  go_enter Tryz.func130,Tryz.ntmps130
  go_wp2_with fail
  go_ret;rw[HV.out];exact⟨rfl,rfl⟩
 ·have HV:Hid (iL r=r - 87):=by show iL r=r - 87;unfold iL;repeat' split;all_goals omega
  go_enter Tryz.func130,Tryz.ntmps130
  go_wp2_with fail
  go_ret;rw[HV.out];exact⟨rfl,rfl⟩
 ·have HV:Hid (iL r=99):=by show iL r=99;unfold iL;repeat' split;all_goals omega
  go_enter Tryz.func130,Tryz.ntmps130
  go_wp2_with fail
  go_ret;rw[HV.out];exact⟨rfl,rfl⟩
theorem ru {r:Int} (h0:0<=r) (h1:r<=255):(iL r<10↔(48<=r/\r<=57))/\(0<=az r/\az r<10↔(48<=r/\r<=57)):=by
 unfold iL az;constructor
 ·repeat' split
  all_goals omega
 ·repeat' split
  all_goals omega
theorem lV (s:ByteArray) (hd:jE s) (j:Nat):∀(k:Nat),j<=k->k<=s.size->aZ 10 (s.data.toList.take j)<=aZ 10 (s.data.toList.take k)
 | 0,h,_=>by
   have:j=0:=by omega
   subst this;exact Gv _
 | k+1,h,hk=>by
   rcases (by omega:j=k+1\/j<=k) with e|h2
   ·rw[e];exact Gv _
   ·have h3:=lV s hd j k h2 (by omega)
    have h4:=dM s hd k (by omega);have h5:=hd k (by omega);rw[cW s k (by omega) hd];omega
theorem l9 (s:ByteArray) (hd:jE s) (h0:0<s.size) (hb:49<=bt s 0):∀k:Nat,k+1<=s.size->((10 ^ k:Nat):Int)<=aZ 10 (s.data.toList.take (k+1))
 | 0,h=>by
   rw[cW s 0 h0 hd,FG];show (1:Int)<=0*10+(bt s 0 - 48);omega
 | k+1,h=>by
   have h1:=l9 s hd h0 hb k (by omega);have h2:=hd (k+1) (by omega);rw[cW s (k+1) (by omega) hd,Nat.pow_succ];omega
theorem wj (s:ByteArray) (hd:jE s) (h0:0<s.size) (hb:49<=bt s 0):((10 ^ (s.size - 1):Nat):Int)<=aZ 10 s.data.toList:=by
 have:=l9 s hd h0 hb (s.size - 1) (by omega);rw[show s.size - 1+1=s.size by omega,bV] at this;exact this
theorem sW {s:ByteArray} (hd:jE s):s.data.toList.all (dI 10)=true:=by
 rw[Gz];intro b hb;obtain⟨j,hj,e⟩:=List.getElem_of_mem hb;have hj':j<s.size:=by simpa using hj
 have h1:=hd j hj';rw[aA s j hj'] at h1;have h2:s.data.toList[j]=s[j]:=rfl;rw[h2] at e;rw[e] at h1;unfold dI;rw[sD h1.1 h1.2,EO];omega
theorem jc {s:ByteArray} (h:1<=s.size):s.data.toList.isEmpty=false:=by
 rw[List.isEmpty_eq_false_iff];intro e;have:s.data.toList.length=s.size:=by simp
 rw[e] at this;simp at this;omega
theorem eP {s:ByteArray} (hd:jE s) (h1:1<=s.size) {most:Int} (h:most<aZ 10 s.data.toList):am s.data.toList 10 most=(0,5):=by
 unfold am;rw[jc h1,sW hd,if_neg (by decide),if_neg (by decide),if_neg (by omega)]
theorem qd {s:ByteArray} (hd:jE s) (h1:1<=s.size) {most:Int} (h:aZ 10 s.data.toList<=most):am s.data.toList 10 most=(aZ 10 s.data.toList,0):=by
 unfold am;rw[jc h1,sW hd,if_neg (by decide),if_neg (by decide),if_pos h]
theorem s5 {s:ByteArray} (h1:1<=s.size) {k:Nat} (hk:k<s.size) (hb:¬(48<=bt s k/\bt s k<=57)) (most:Int):am s.data.toList 10 most=(0,3):=by
 have h2:s.data.toList.all (dI 10)=false:=by
  rw[List.all_eq_false];refine⟨s[k]'hk,by show s.data.toList[k]∈_;exact FT _,?_⟩;unfold dI;rw[<-aA s k hk,EO]
  have hr:0<=bt s k/\bt s k<=255:=by
   rw[aA s k hk];have:=(s[k]'hk).toNat_lt;omega
  exact fun h=>hb ((ru hr.1 hr.2).2.1 h)
 unfold am;rw[jc h1,h2];rfl
theorem lY (s:ByteArray) (hs:s.size<=1000000) (most:Int) (hm0:0<=most) (hm:most<=9223372036854775807) (n e:Int) (hr:am s.data.toList 10 most=(n,e)) (w:World):
 Calls Tryz.prog 103 #[.string s,.int .i64 10,.int .i64 most] w fun r w'=>r=.returned (.tuple #[.int .i64 n,.int .i64 e])/\w=w':=by
 have HR:=lH hr;clear hr;by_cases h0:s.size=0
 ·have hz:((s.size:Int)==0)=true:=by rw[FA];omega
  have hK:Hid ((0,2)=(n,e)):=by
   show (0,2)=(n,e);rw[<-HR.out];have:s.data.toList=[]:=EU (by simpa using h0);rw[this];rfl
  go_enter Tryz.func103,Tryz.ntmps103
  go_wp2_with fail
  go_ret2
  obtain⟨rfl,rfl⟩:=FB hK.out;exact⟨rfl,rfl⟩
 have h1:1<=s.size:=by omega
 have hsz:(1:Int)<=s.size:=by omega
 have hsz2:(s.size:Int)<=1000000:=by omega
 have hz:((s.size:Int)==0)=false:=by rw[EJ];omega
 clear h0;go_enter Tryz.func103,Tryz.ntmps103
 go_wp2_with fail
 go_loop [8] (fun i=>∃k:Nat,k<=s.size/\i=.int .i64 k/\∀j:Nat,j<k->48<=bt s j/\bt s j<=57) (fun i=>s.size - (intOf i).toNat)
 case atStart=>exact⟨0,by omega,rfl,fun j hj=>by omega⟩
 case round=>
  obtain⟨k,hk,rfl,hall⟩:=hrel;have HA:=lH hall;clear hall;by_cases hlt:k<s.size
  ·obtain⟨b,hb⟩:∃b,b=bt s k:=⟨_,rfl⟩
   have hix:=aV s k hlt hb
   have hbr:0<=b/\b<=255:=by
    rw[hb,aA s k hlt];have:=(s[k]'hlt).toNat_lt;omega
   have hb1:=hbr.1;have hb2:=hbr.2;obtain⟨v,hv⟩:∃v,v=iL b:=⟨_,rfl⟩;have HVC:Hid (∀W:World,Calls Tryz.prog 130 #[.int .u8 b] W fun e w'=>e=.returned (.int .i64 v)/\W=w'):=fun W=>by rw[hv];exact dk b hb1 hb2 W
   have HB:=lH hb;have HV:=lH hv;have HBR:=lH hbr;clear hb hbr hv;by_cases hd:v<10
   ·have hg:decide ((10:Int)<=v)=false:=by rw[EP];omega
    have HN:Hid (48<=bt s k/\bt s k<=57):=by
     show _/\_;rw[<-HB.out];exact(ru HBR.out.1 HBR.out.2).1.1 (by rw[<-HV.out];exact hd)
    clear hd;go_wp2_with (go_at_call 130;refine(HVC.out _).mono ?_;rintro e' w' ⟨rfl,rfl⟩)
    go_round
    case rel=>
     refine⟨k+1,by omega,by go_num,fun j hj=>?_⟩;rcases (by omega:j=k\/j<k) with rfl|h
     ·exact HN.out
     ·exact HA.out j h
    case measure=>simp[intOf];omega
   ·have hg:decide ((10:Int)<=v)=true:=by rw[EO];omega
    have hK:Hid ((0,3)=(n,e)):=by
     show (0,3)=(n,e);rw[<-HR.out,s5 h1 hlt (fun h=>hd (by rw[HV.out];exact(ru HBR.out.1 HBR.out.2).1.2 (by rw[HB.out];exact h)))]
    clear hd;go_wp2_with (go_at_call 130;refine(HVC.out _).mono ?_;rintro e' w' ⟨rfl,rfl⟩)
    go_ret2
    obtain⟨rfl,rfl⟩:=FB hK.out;exact⟨rfl,rfl⟩
  ·obtain rfl:k=s.size:=by omega
   have HD:Hid (jE s):=HA.out;go_wp2_with fail
   go_loop [0] (fun v=>∃t:ByteArray,v=.string t/\1<=t.size/\t.size<=1000000/\jE t/\aZ 10 t.data.toList=aZ 10 s.data.toList) (fun v=>jo v)
   case atStart=>exact⟨s,rfl,h1,hs,HD.out,rfl⟩
   case round=>
    obtain⟨t,rfl,ht1,ht2,htd,htn⟩:=hrel;have TD:=lH htd;have TN:=lH htn;clear htd htn;have hts:(1:Int)<=t.size:=by omega
    have hts2:(t.size:Int)<=1000000:=by omega
    obtain⟨b,hb⟩:∃b,b=bt t 0:=⟨_,rfl⟩;have hix:∀W:World,(Instr.index 9 (.string t) (.int .i64 0)).run Tryz.prog W=.ok (.int .u8 b) W:=aV t 0 (by omega) hb;have HB:=lH hb;clear hb;by_cases hgo:1<t.size/\b=48
    ·obtain⟨hg1,rfl⟩:=hgo
     have hg2:(1:Int)<t.size:=by omega
     go_wp2_with fail
     go_round
     case rel=>exact⟨t.extract 1 t.size,by simp,by rw[dp];omega,by rw[dp];omega,pK TD.out,by rw[sH (by omega) HB.out.symm];exact TN.out⟩
     case measure=>simp[jo];omega
    ·have hstop:t.size=1\/(1<t.size/\b≠48):=by
      rcases (by omega:t.size=1\/(1<t.size)) with h|h
      ·exact .inl h
      ·exact .inr ⟨h,fun h'=>hgo ⟨h,h'⟩⟩
     clear hgo;rcases hstop with hone|⟨hmore,hne⟩
     ·have ho:(t.size:Int)=1:=by omega
      have ht19:t.size<=19:=by omega
      have h19:decide ((19:Int)<t.size)=false:=by rw[EP];omega
      go_wp2_with fail
      go_loop [9,10] (fun nv iv=>∃(k:Nat) (m:Int),nv=.int .u64 m/\iv=.int .i64 k/\k<=t.size/\m=aZ 10 (t.data.toList.take k)) (fun _ iv=>t.size - (intOf iv).toNat)
      case atStart=>exact⟨0,0,rfl,rfl,by omega,rfl⟩
      case round=>
       obtain⟨k,m,rfl,rfl,hk,hmv⟩:=hrel;have HM:=lH hmv;have hsm:=dM t TD.out k hk;rw[<-hmv] at hsm;have hsm0:=hsm.1
       have hsm1:m<10000000000000000000:=by
        have hp:(10:Nat) ^ k<=10 ^ 19:=GQ (by decide) (by omega);have hp2:(10:Nat) ^ 19=10000000000000000000:=by decide
        omega
       clear hmv hsm;by_cases hlt:k<t.size
       ·obtain⟨c,hc⟩:∃c,c=bt t k:=⟨_,rfl⟩
        have hix2:=aV t k hlt hc;have hdk:=TD.out k hlt;rw[<-hc] at hdk;have hc1:=hdk.1;have hc2:=hdk.2;have HC:=lH hc;clear hc hdk;by_cases hbig:1152921504606846975<m
        ·have hK:Hid ((0,5)=(n,e)):=by
          show (0,5)=(n,e);rw[<-HR.out,eP HD.out h1];have h3:=lV t TD.out (k+1) t.size hlt (nR _);rw[cW t k hlt TD.out,<-HM.out,<-HC.out,bV,TN.out] at h3;omega
         go_wp2_with fail
         go_ret2
         obtain⟨rfl,rfl⟩:=FB hK.out;exact⟨rfl,rfl⟩
        ·have hsm2:m<=1152921504606846975:=by omega
         clear hbig;go_wp2_with (go_at_call 130;refine(ed c hc1 hc2 _).mono ?_;rintro e' w' ⟨rfl,rfl⟩)
         go_round
         case rel=>exact⟨k+1,m*10+(c - 48),by go_num,by go_num,by omega,by rw[cW t k hlt TD.out,<-HM.out,<-HC.out]⟩
         case measure=>simp[intOf];omega
       ·obtain rfl:k=t.size:=by omega
        have hmm:Hid (m=aZ 10 s.data.toList):=by show m=_;rw[HM.out,bV,TN.out]
        by_cases hle:m<=most
        ·have hK:Hid ((m,0)=(n,e)):=by show (m,0)=(n,e);rw[<-HR.out,qd HD.out h1 (by rw[<-hmm.out];exact hle),hmm.out]
         have hgt:decide (most<m)=false:=by rw[EP];omega
         go_wp2_with fail
         go_ret2
         obtain⟨rfl,rfl⟩:=FB hK.out;exact⟨rfl,rfl⟩
        ·have hK:Hid ((0,5)=(n,e)):=by show (0,5)=(n,e);rw[<-HR.out,eP HD.out h1 (by rw[<-hmm.out];omega)]
         have hgt:most<m:=by omega
         go_wp2_with fail
         go_ret2
         obtain⟨rfl,rfl⟩:=FB hK.out;exact⟨rfl,rfl⟩
     ·have hg2:(1:Int)<t.size:=by omega
      have hne':(b==48)=false:=by simpa using hne
      by_cases hl:19<t.size
      ·have h19:decide ((19:Int)<t.size)=true:=by rw[EO];omega
       have hK:Hid ((0,5)=(n,e)):=by
        show (0,5)=(n,e)
        rw[<-HR.out,eP HD.out h1 (by
         have h3:=wj t TD.out (by omega) (by rw[<-HB.out];have:=TD.out 0 (by omega);rw[<-HB.out] at this;omega);have hp:(10:Nat) ^ 19<=10 ^ (t.size - 1):=GQ (by decide) (by omega);have hp2:(10:Nat) ^ 19=10000000000000000000:=by decide
         rw[TN.out] at h3
         omega)]
       go_wp2_with fail
       go_ret2
       obtain⟨rfl,rfl⟩:=FB hK.out;exact⟨rfl,rfl⟩
      ·have ht19:t.size<=19:=by omega
       have h19:decide ((19:Int)<t.size)=false:=by rw[EP];omega
       go_wp2_with fail
       go_loop [9,10] (fun nv iv=>∃(k:Nat) (m:Int),nv=.int .u64 m/\iv=.int .i64 k/\k<=t.size/\m=aZ 10 (t.data.toList.take k)) (fun _ iv=>t.size - (intOf iv).toNat)
       case atStart=>exact⟨0,0,rfl,rfl,by omega,rfl⟩
       case round=>
        obtain⟨k,m,rfl,rfl,hk,hmv⟩:=hrel;have HM:=lH hmv;have hsm:=dM t TD.out k hk;rw[<-hmv] at hsm;have hsm0:=hsm.1
        have hsm1:m<10000000000000000000:=by
         have hp:(10:Nat) ^ k<=10 ^ 19:=GQ (by decide) (by omega);have hp2:(10:Nat) ^ 19=10000000000000000000:=by decide
         omega
        clear hmv hsm;by_cases hlt:k<t.size
        ·obtain⟨c,hc⟩:∃c,c=bt t k:=⟨_,rfl⟩
         have hix2:=aV t k hlt hc;have hdk:=TD.out k hlt;rw[<-hc] at hdk;have hc1:=hdk.1;have hc2:=hdk.2;have HC:=lH hc;clear hc hdk;by_cases hbig:1152921504606846975<m
         ·have hK:Hid ((0,5)=(n,e)):=by
           show (0,5)=(n,e);rw[<-HR.out,eP HD.out h1];have h3:=lV t TD.out (k+1) t.size hlt (nR _);rw[cW t k hlt TD.out,<-HM.out,<-HC.out,bV,TN.out] at h3;omega
          go_wp2_with fail
          go_ret2
          obtain⟨rfl,rfl⟩:=FB hK.out;exact⟨rfl,rfl⟩
         ·have hsm2:m<=1152921504606846975:=by omega
          clear hbig;go_wp2_with (go_at_call 130;refine(ed c hc1 hc2 _).mono ?_;rintro e' w' ⟨rfl,rfl⟩)
          go_round
          case rel=>exact⟨k+1,m*10+(c - 48),by go_num,by go_num,by omega,by rw[cW t k hlt TD.out,<-HM.out,<-HC.out]⟩
          case measure=>simp[intOf];omega
        ·obtain rfl:k=t.size:=by omega
         have hmm:Hid (m=aZ 10 s.data.toList):=by show m=_;rw[HM.out,bV,TN.out]
         by_cases hle:m<=most
         ·have hK:Hid ((m,0)=(n,e)):=by show (m,0)=(n,e);rw[<-HR.out,qd HD.out h1 (by rw[<-hmm.out];exact hle),hmm.out]
          have hgt:decide (most<m)=false:=by rw[EP];omega
          go_wp2_with fail
          go_ret2
          obtain⟨rfl,rfl⟩:=FB hK.out;exact⟨rfl,rfl⟩
         ·have hK:Hid ((0,5)=(n,e)):=by show (0,5)=(n,e);rw[<-HR.out,eP HD.out h1 (by rw[<-hmm.out];omega)]
          have hgt:most<m:=by omega
          go_wp2_with fail
          go_ret2
          obtain⟨rfl,rfl⟩:=FB hK.out;exact⟨rfl,rfl⟩
end Go.Proofs.YthjbodpeckebiaaGreatDoor
-- NumH
namespace Go.Proofs.YthjbodpeckebiaaGreatDoor
open Go.RowKit
def iG (s:ByteArray):Prop:=∀k,k<s.size->0<=az (bt s k)/\az (bt s k)<16
theorem rk {r:Int} (h:0<=az r/\az r<16):iL r=az r:=by
 unfold az at h ⊢;unfold iL;repeat' split
 all_goals first|rfl|omega
theorem CM {b:Int} (h:0<=az b) (hne:b≠48):1<=az b:=by
 unfold az at h ⊢;repeat' split at h
 all_goals (repeat' split)
 all_goals omega
theorem gm (s:ByteArray) (k:Nat) (h:k<s.size):aZ 16 (s.data.toList.take (k+1))=aZ 16 (s.data.toList.take k)*16+az (bt s k):=by
 rw[List.take_add_one,EM (by rw[<-Lib.size_eq];exact h)];show aZ 16 (s.data.toList.take k++[s.data.toList[k]'_])=_;rw[js,aA s k h];rfl
theorem wS (s:ByteArray) (hd:iG s):∀k:Nat,k<=s.size->0<=aZ 16 (s.data.toList.take k)
 | 0,_=>Gv _
 | k+1,h=>by
   have h1:=wS s hd k (by omega);have h2:=hd k (by omega);rw[gm s k (by omega)];omega
theorem rp (s:ByteArray) (hd:iG s) (j:Nat):∀(k:Nat),j<=k->k<=s.size->aZ 16 (s.data.toList.take j)<=aZ 16 (s.data.toList.take k)
 | 0,h,_=>by
   have:j=0:=by omega
   subst this;exact Gv _
 | k+1,h,hk=>by
   rcases (by omega:j=k+1\/j<=k) with e|h2
   ·rw[e];exact Gv _
   ·have h3:=rp s hd j k h2 (by omega)
    have h4:=wS s hd k (by omega);have h5:=hd k (by omega);rw[gm s k (by omega)];omega
theorem qZ (s:ByteArray) (hd:iG s) (h0:0<s.size) (hb:1<=az (bt s 0)):∀k:Nat,k+1<=s.size->((16 ^ k:Nat):Int)<=aZ 16 (s.data.toList.take (k+1))
 | 0,h=>by
   rw[gm s 0 h0,FG];show (1:Int)<=0*16+az (bt s 0);omega
 | k+1,h=>by
   have h1:=qZ s hd h0 hb k (by omega);have h2:=hd (k+1) (by omega);rw[gm s (k+1) (by omega),Nat.pow_succ];omega
theorem AH (s:ByteArray) (hd:iG s) (h0:0<s.size) (hb:1<=az (bt s 0)):((16 ^ (s.size - 1):Nat):Int)<=aZ 16 s.data.toList:=by
 have:=qZ s hd h0 hb (s.size - 1) (by omega);rw[show s.size - 1+1=s.size by omega,bV] at this;exact this
theorem pU {s:ByteArray} (hd:iG s):s.data.toList.all (dI 16)=true:=by
 rw[Gz];intro b hb;obtain⟨j,hj,e⟩:=List.getElem_of_mem hb;have hj':j<s.size:=by simpa using hj
 have h1:=hd j hj';rw[aA s j hj'] at h1;have h2:s.data.toList[j]=s[j]:=rfl;rw[h2] at e;rw[e] at h1;unfold dI;rw[EO];exact h1
theorem eh {s:ByteArray} (hd:iG s) (h1:1<=s.size) {most:Int} (h:most<aZ 16 s.data.toList):am s.data.toList 16 most=(0,5):=by
 unfold am;rw[jc h1,pU hd,if_neg (by decide),if_neg (by decide),if_neg (by omega)]
theorem oG {s:ByteArray} (hd:iG s) (h1:1<=s.size) {most:Int} (h:aZ 16 s.data.toList<=most):am s.data.toList 16 most=(aZ 16 s.data.toList,0):=by
 unfold am;rw[jc h1,pU hd,if_neg (by decide),if_neg (by decide),if_pos h]
theorem vq {s:ByteArray} (hd:iG s):iG (s.extract 1 s.size):=fun k h=>by
 rw[dp] at h;rw[xf s k (by omega)];exact hd (k+1) (by omega)
theorem yQ {s:ByteArray} (h:0<s.size) (h0:bt s 0=48):aZ 16 (s.extract 1 s.size).data.toList=aZ 16 s.data.toList:=by
 rw[jn];have hl:s.data.toList.length=s.size:=(Lib.size_eq s).symm;cases e:s.data.toList with
 | nil=>rw[e] at hl;simp at hl;omega
 | cons b t=>
   have hb:((b.toNat:Nat):Int)=48:=by
    rw[<-h0,aA s 0 h];have:s.data.toList[0]'(by omega)=s[0]'h:=rfl;rw[<-this];simp[e]
   show aZ 16 t=(t.foldl (fun n b=>n*16+az b.toNat) (0*16+az b.toNat));rw[hb];rfl
theorem po (s:ByteArray) (hs:s.size<=1000000) (hd:iG s) (h1:1<=s.size) (most:Int) (hm0:0<=most) (hm:most<=9223372036854775807) (n e:Int) (hr:am s.data.toList 16 most=(n,e)) (w:World):
 Calls Tryz.prog 103 #[.string s,.int .i64 16,.int .i64 most] w fun r w'=>r=.returned (.tuple #[.int .i64 n,.int .i64 e])/\w=w':=by
 have HR:=lH hr;have HD:=lH hd;clear hr hd;have hsz:(1:Int)<=s.size:=by omega
 have hsz2:(s.size:Int)<=1000000:=by omega
 have hz:((s.size:Int)==0)=false:=by rw[EJ];omega
 go_enter Tryz.func103,Tryz.ntmps103
 go_wp2_with fail
 go_loop [8] (fun i=>∃k:Nat,k<=s.size/\i=.int .i64 k) (fun i=>s.size - (intOf i).toNat)
 case atStart=>exact⟨0,by omega,rfl⟩
 case round=>
  obtain⟨k,hk,rfl⟩:=hrel;by_cases hlt:k<s.size
  ·obtain⟨b,hb⟩:∃b,b=bt s k:=⟨_,rfl⟩
   have hix:=aV s k hlt hb
   have hbr:0<=b/\b<=255:=by
    rw[hb,aA s k hlt];have:=(s[k]'hlt).toNat_lt;omega
   have hdk:=HD.out k hlt;obtain⟨v,hv⟩:∃v,v=az (bt s k):=⟨_,rfl⟩;rw[<-hv] at hdk
   have HVC:Hid (∀W:World,Calls Tryz.prog 130 #[.int .u8 b] W fun e w'=>e=.returned (.int .i64 v)/\W=w'):=fun W=>by
    have:=dk b hbr.1 hbr.2 W;rw[rk (by rw[hb,<-hv];exact hdk),hb,<-hv] at this;rw[hb];exact this
   have hg:decide ((16:Int)<=v)=false:=by rw[EP];omega
   clear hb hbr hv hdk;go_wp2_with (go_at_call 130;refine(HVC.out _).mono ?_;rintro e' w' ⟨rfl,rfl⟩)
   go_round
   case rel=>exact⟨k+1,by omega,by go_num⟩
   case measure=>simp[intOf];omega
  ·obtain rfl:k=s.size:=by omega
   go_wp2_with fail
   go_loop [0] (fun v=>∃t:ByteArray,v=.string t/\1<=t.size/\t.size<=1000000/\iG t/\aZ 16 t.data.toList=aZ 16 s.data.toList) (fun v=>jo v)
   case atStart=>exact⟨s,rfl,h1,hs,HD.out,rfl⟩
   case round=>
    obtain⟨t,rfl,ht1,ht2,htd,htn⟩:=hrel;have TD:=lH htd;have TN:=lH htn;clear htd htn;have hts:(1:Int)<=t.size:=by omega
    have hts2:(t.size:Int)<=1000000:=by omega
    obtain⟨b,hb⟩:∃b,b=bt t 0:=⟨_,rfl⟩;have hix:∀W:World,(Instr.index 9 (.string t) (.int .i64 0)).run Tryz.prog W=.ok (.int .u8 b) W:=aV t 0 (by omega) hb;have HB:=lH hb;clear hb;by_cases hgo:1<t.size/\b=48
    ·obtain⟨hg1,rfl⟩:=hgo
     have hg2:(1:Int)<t.size:=by omega
     go_wp2_with fail
     go_round
     case rel=>exact⟨t.extract 1 t.size,by simp,by rw[dp];omega,by rw[dp];omega,vq TD.out,by rw[yQ (by omega) HB.out.symm];exact TN.out⟩
     case measure=>simp[jo];omega
    ·have hstop:t.size=1\/(1<t.size/\b≠48):=by
      rcases (by omega:t.size=1\/(1<t.size)) with h|h
      ·exact .inl h
      ·exact .inr ⟨h,fun h'=>hgo ⟨h,h'⟩⟩
     clear hgo;rcases hstop with hone|⟨hmore,hne⟩
     ·have ho:(t.size:Int)=1:=by omega
      have ht19:t.size<=19:=by omega
      have h19:decide ((19:Int)<t.size)=false:=by rw[EP];omega
      go_wp2_with fail
      go_loop [9,10] (fun nv iv=>∃(k:Nat) (m:Int),nv=.int .u64 m/\iv=.int .i64 k/\k<=t.size/\m=aZ 16 (t.data.toList.take k)/\m<=18446744073709551615) (fun _ iv=>t.size - (intOf iv).toNat)
      case atStart=>exact⟨0,0,rfl,rfl,by omega,rfl,by decide⟩
      case round=>
       obtain⟨k,m,rfl,rfl,hk,hmv,hmb⟩:=hrel;have HM:=lH hmv;have hsm0:0<=m:=by rw[hmv];exact wS t TD.out k hk
       clear hmv;by_cases hlt:k<t.size
       ·obtain⟨c,hc⟩:∃c,c=bt t k:=⟨_,rfl⟩
        have hix2:=aV t k hlt hc;have hdk:=TD.out k hlt;obtain⟨dg,hdg⟩:∃d,d=az (bt t k):=⟨_,rfl⟩;rw[<-hdg] at hdk;have hc1:=hdk.1;have hc2:=hdk.2;have hcr:0<=c/\c<=255:=by rw[hc,aA t k hlt];have:=(t[k]'hlt).toNat_lt;omega
        have HVC:=lH (fun(W:World)=>show Calls Tryz.prog 130 #[.int .u8 c] W fun e w'=>e=.returned (.int .i64 dg)/\W=w' by
         have:=dk c hcr.1 hcr.2 W;rw[rk (by rw[hc,<-hdg];exact hdk),hc,<-hdg] at this;rw[hc]
         exact this)
        have HC:=lH hdg;clear hc hdk hcr hdg;by_cases hbig:1152921504606846975<m
        ·have hK:Hid ((0,5)=(n,e)):=by
          show (0,5)=(n,e);rw[<-HR.out,eh HD.out h1];have h3:=rp t TD.out (k+1) t.size hlt (nR _);rw[gm t k hlt,<-HM.out,<-HC.out,bV,TN.out] at h3;omega
         go_wp2_with fail
         go_ret2
         obtain⟨rfl,rfl⟩:=FB hK.out;exact⟨rfl,rfl⟩
        ·have hsm2:m<=1152921504606846975:=by omega
         clear hbig hmb;go_wp2_with (go_at_call 130;refine(HVC.out _).mono ?_;rintro e' w' ⟨rfl,rfl⟩)
         go_round
         case rel=>exact⟨k+1,m*16+dg,by go_num,by go_num,by omega,by rw[gm t k hlt,<-HM.out,<-HC.out],by omega⟩
         case measure=>simp[intOf];omega
       ·obtain rfl:k=t.size:=by omega
        have hmm:Hid (m=aZ 16 s.data.toList):=by show m=_;rw[HM.out,bV,TN.out]
        clear hmb;by_cases hle:m<=most
        ·have hK:Hid ((m,0)=(n,e)):=by show (m,0)=(n,e);rw[<-HR.out,oG HD.out h1 (by rw[<-hmm.out];exact hle),hmm.out]
         have hgt:decide (most<m)=false:=by rw[EP];omega
         go_wp2_with fail
         go_ret2
         obtain⟨rfl,rfl⟩:=FB hK.out;exact⟨rfl,rfl⟩
        ·have hK:Hid ((0,5)=(n,e)):=by show (0,5)=(n,e);rw[<-HR.out,eh HD.out h1 (by rw[<-hmm.out];omega)]
         have hgt:most<m:=by omega
         go_wp2_with fail
         go_ret2
         obtain⟨rfl,rfl⟩:=FB hK.out;exact⟨rfl,rfl⟩
     ·have hb2:(b==48)=false:=by rw[EJ];exact hne
      have hb3:(b != 48)=true:=by rw[FP];exact hne
      have hm2:(1:Int)<t.size:=by omega
      by_cases h20:t.size<=19
      ·clear hne
       have h19:decide ((19:Int)<t.size)=false:=by rw[EP];omega
       go_wp2_with fail
       go_loop [9,10] (fun nv iv=>∃(k:Nat) (m:Int),nv=.int .u64 m/\iv=.int .i64 k/\k<=t.size/\m=aZ 16 (t.data.toList.take k)/\m<=18446744073709551615) (fun _ iv=>t.size - (intOf iv).toNat)
       case atStart=>exact⟨0,0,rfl,rfl,by omega,rfl,by decide⟩
       case round=>
        obtain⟨k,m,rfl,rfl,hk,hmv,hmb⟩:=hrel;have HM:=lH hmv;have hsm0:0<=m:=by rw[hmv];exact wS t TD.out k hk
        clear hmv;by_cases hlt:k<t.size
        ·obtain⟨c,hc⟩:∃c,c=bt t k:=⟨_,rfl⟩
         have hix2:=aV t k hlt hc;have hdk:=TD.out k hlt;obtain⟨dg,hdg⟩:∃d,d=az (bt t k):=⟨_,rfl⟩;rw[<-hdg] at hdk;have hc1:=hdk.1;have hc2:=hdk.2;have hcr:0<=c/\c<=255:=by rw[hc,aA t k hlt];have:=(t[k]'hlt).toNat_lt;omega
         have HVC:=lH (fun(W:World)=>show Calls Tryz.prog 130 #[.int .u8 c] W fun e w'=>e=.returned (.int .i64 dg)/\W=w' by
          have:=dk c hcr.1 hcr.2 W;rw[rk (by rw[hc,<-hdg];exact hdk),hc,<-hdg] at this;rw[hc]
          exact this)
         have HC:=lH hdg;clear hc hdk hcr hdg;by_cases hbig:1152921504606846975<m
         ·have hK:Hid ((0,5)=(n,e)):=by
           show (0,5)=(n,e);rw[<-HR.out,eh HD.out h1];have h3:=rp t TD.out (k+1) t.size hlt (nR _);rw[gm t k hlt,<-HM.out,<-HC.out,bV,TN.out] at h3;omega
          go_wp2_with fail
          go_ret2
          obtain⟨rfl,rfl⟩:=FB hK.out;exact⟨rfl,rfl⟩
         ·have hsm2:m<=1152921504606846975:=by omega
          clear hbig hmb;go_wp2_with (go_at_call 130;refine(HVC.out _).mono ?_;rintro e' w' ⟨rfl,rfl⟩)
          go_round
          case rel=>exact⟨k+1,m*16+dg,by go_num,by go_num,by omega,by rw[gm t k hlt,<-HM.out,<-HC.out],by omega⟩
          case measure=>simp[intOf];omega
        ·obtain rfl:k=t.size:=by omega
         have hmm:Hid (m=aZ 16 s.data.toList):=by show m=_;rw[HM.out,bV,TN.out]
         clear hmb;by_cases hle:m<=most
         ·have hK:Hid ((m,0)=(n,e)):=by show (m,0)=(n,e);rw[<-HR.out,oG HD.out h1 (by rw[<-hmm.out];exact hle),hmm.out]
          have hgt:decide (most<m)=false:=by rw[EP];omega
          go_wp2_with fail
          go_ret2
          obtain⟨rfl,rfl⟩:=FB hK.out;exact⟨rfl,rfl⟩
         ·have hK:Hid ((0,5)=(n,e)):=by show (0,5)=(n,e);rw[<-HR.out,eh HD.out h1 (by rw[<-hmm.out];omega)]
          have hgt:most<m:=by omega
          go_wp2_with fail
          go_ret2
          obtain⟨rfl,rfl⟩:=FB hK.out;exact⟨rfl,rfl⟩
      ·have h19:(19:Int)<t.size:=by omega
       have hK:Hid ((0,5)=(n,e)):=by
        show (0,5)=(n,e)
        rw[<-HR.out,eh HD.out h1 (by
         have h3:=AH t TD.out (by omega) (by
          have h4:=TD.out 0 (by omega);rw[<-HB.out] at h4 ⊢
          exact CM h4.1 hne)
         have hp:(16:Nat) ^ 19<=16 ^ (t.size - 1):=GQ (by decide) (by omega);have hp2:(16:Nat) ^ 19=75557863725914323419136:=by decide
         rw[TN.out] at h3
         omega)]
       go_wp2_with fail
       go_ret2
       obtain⟨rfl,rfl⟩:=FB hK.out;exact⟨rfl,rfl⟩
end Go.Proofs.YthjbodpeckebiaaGreatDoor
/- Texts packed for one claim, 4 of 48: Start Number Trim StartB StartC NumberW PrP LsP LsW HostP. -/
import Derived.Test.YthjbodpeckebiaaGreatDoorRdnQ3
import Derived.Test.YthjbodpeckebiaaGreatDoorRdnShelf
import Derived.Deep.QuietTactic
import Derived.BigQuiet
import Derived.Test.YthjbodpeckebiaaGreatDoorRdnQ2
set_option maxRecDepth 100000
set_option maxHeartbeats 16000000
set_option linter.unusedSimpArgs false
set_option linter.unusedVariables false
-- Start
namespace Go.Proofs.YthjbodpeckebiaaGreatDoor
open Go.RowKit
def cg (r:Int):Bool:=decide (48<=r/\r<=57)
def bt (s:ByteArray) (i:Nat):Int:=if h:i<s.size then ((s[i]'h).toNat:Int) else 0
def bK (s:ByteArray):Bool:=decide (s.size=8)&&(Lib.hasPrefix s.data.toList [72,84,84,80,47]&&(cg (bt s 5)&&(decide (bt s 6=46)&&cg (bt s 7))))
def aH (s:ByteArray):Int×Int:=if bK s=false then (0,3) else if bt s 5=49 then (if bt s 7=48 then (0,0) else (1,0)) else (0,9)
theorem cq (s:ByteArray) (i:Nat):0<=bt s i/\bt s i<=255:=by
 unfold bt;split
 ·rename_i h
  have:=(s[i]'h).toNat_lt;omega
 ·omega
theorem ar (s:ByteArray) (i:Nat) (h:i<s.size) (W:World):(Instr.index 9 (.string s) (.int .i64 (i:Int))).run Tryz.prog W=.ok (.int .u8 (bt s i)) W:=by
 have h1:=run_index_string (P:=Tryz.prog) (w:=W) 9 s .i64 (i:Int) Tryz.underlying9;have h2:0<=(i:Int)/\(i:Int)<s.size:=by omega
 rw[dif_pos h2] at h1;rw[h1];unfold bt;rw[dif_pos h];rfl
theorem iz {r:Int} (h:r<48\/57<r):cg r=false:=by unfold cg;rw[tZ];omega
theorem o4 {r:Int} (h:48<=r) (h':r<=57):cg r=true:=by unfold cg;rw[tY];exact⟨h,h'⟩
theorem ni (r:Int) (h0:0<=r) (h1:r<=255) (w:World):Calls Tryz.prog 206 #[.int .u8 r] w fun e w'=>e=.returned (.bool (cg r))/\w=w':=by
 rcases (by omega:r<48\/(48<=r/\r<=57)\/57<r) with h|⟨h,h'⟩|h
 ·have HV:=lH (iz (.inl h))
  go_enter Tryz.func206,Tryz.ntmps206
  go_wp2_with fail
  go_ret;rw[HV.out];exact⟨rfl,rfl⟩
 ·have HV:=lH (o4 h h')
  go_enter Tryz.func206,Tryz.ntmps206
  go_wp2_with fail
  go_ret;rw[HV.out];exact⟨rfl,rfl⟩
 ·have HV:=lH (iz (.inr h))
  have hd:decide (r<=57)=false:=by rw[tZ];omega
  go_enter Tryz.func206,Tryz.ntmps206
  go_wp2_with fail
  go_ret;rw[HV.out];exact⟨rfl,rfl⟩
theorem oP (s:ByteArray) (h:s.size≠8):bK s=false:=by unfold bK;rw[dF h];rfl
theorem oQ (s:ByteArray) (h:s.size=8) {p d e f:Bool} (hp:Lib.hasPrefix s.data.toList [72,84,84,80,47]=p) (hd:cg (bt s 5)=d) (he:decide (bt s 6=46)=e) (hf:cg (bt s 7)=f):bK s=(p&&(d&&(e&&f))):=by
 unfold bK;rw[dT h,hp,hd,he,hf];rfl
theorem pF (s:ByteArray) {p:Bool} (hp:Lib.hasPrefix s.data.toList [72,84,84,80,47]=p) (w:World):Calls Tryz.prog 205 #[.string s,.string ⟨#[72,84,84,80,47]⟩] w fun e w'=>e=.returned (.bool p)/\w=w':=by
 subst hp;exact(Tryz.strings_HasPrefix s ⟨#[72,84,84,80,47]⟩ w).mono fun _ _ ⟨a,b⟩=>⟨a,b.symm⟩
theorem jX {r:Int} {d:Bool} (hd:cg r=d) (h:0<=r/\r<=255) (w:World):Calls Tryz.prog 206 #[.int .u8 r] w fun e w'=>e=.returned (.bool d)/\w=w':=by
 subst hd;exact ni r h.1 h.2 w
theorem mt (s:ByteArray) (hs:s.size<=9223372036854775807) (w:World):Calls Tryz.prog 168 #[.string s] w fun e w'=>e=.returned (.bool (bK s))/\w=w':=by
 by_cases h8:s.size=8
 ·obtain⟨p,hp⟩:∃p,Lib.hasPrefix s.data.toList [72,84,84,80,47]=p:=⟨_,rfl⟩
  obtain⟨d,hd⟩:∃d,cg (bt s 5)=d:=⟨_,rfl⟩;obtain⟨e,he⟩:∃e,decide (bt s 6=46)=e:=⟨_,rfl⟩;obtain⟨f,hf⟩:∃f,cg (bt s 7)=f:=⟨_,rfl⟩;have HV:=lH (oQ s h8 hp hd he hf);have i5:∀W:World,(Instr.index 9 (.string s) (.int .i64 5)).run Tryz.prog W=.ok (.int .u8 (bt s 5)) W:=ar s 5 (by omega);have i6:∀W:World,(Instr.index 9 (.string s) (.int .i64 6)).run Tryz.prog W=.ok (.int .u8 (bt s 6)) W:=ar s 6 (by omega);have i7:∀W:World,(Instr.index 9 (.string s) (.int .i64 7)).run Tryz.prog W=.ok (.int .u8 (bt s 7)) W:=ar s 7 (by omega);have r5:=lH (cq s 5);have r7:=lH (cq s 7);obtain⟨b5,hb5⟩:∃b,b=bt s 5:=⟨_,rfl⟩;obtain⟨b6,hb6⟩:∃b,b=bt s 6:=⟨_,rfl⟩;obtain⟨b7,hb7⟩:∃b,b=bt s 7:=⟨_,rfl⟩;rw[<-hb5] at i5 hd r5;rw[<-hb6] at i6 he;rw[<-hb7] at i7 hf r7;have he':(b6==46)=e:=he;have HP:=lH hp;have HD:=lH hd;have HF:=lH hf;clear hp hd hf hb5 hb6 hb7;have h8i:(s.size:Int)=8:=by omega
  have h5:p=false\/(p=true/\d=false)\/(p=true/\d=true/\e=false)\/(p=true/\d=true/\e=true/\f=false)\/(p=true/\d=true/\e=true/\f=true):=by cases p<;>cases d<;>cases e<;>cases f<;>simp
  rcases h5 with rfl|⟨rfl,rfl⟩|⟨rfl,rfl,rfl⟩|⟨rfl,rfl,rfl,rfl⟩|⟨rfl,rfl,rfl,rfl⟩
  all_goals
   go_enter Tryz.func168,Tryz.ntmps168
   go_wp2_with (first
    | (go_at_call 205;refine(pF s HP.out _).mono ?_;rintro e' w' ⟨rfl,rfl⟩)
    | (go_at_call 206;first|(refine(jX HD.out r5.out _).mono ?_;rintro e' w' ⟨rfl,rfl⟩)|(refine(jX HF.out r7.out _).mono ?_;rintro e' w' ⟨rfl,rfl⟩)))
   go_ret;rw[HV.out];exact⟨rfl,rfl⟩
 ·have HV:=lH (oP s h8)
  have h8i:¬((s.size:Int)=8):=by omega
  go_enter Tryz.func168,Tryz.ntmps168
  go_wp2_with fail
  go_ret;rw[HV.out];exact⟨rfl,rfl⟩
end Go.Proofs.YthjbodpeckebiaaGreatDoor
-- Number
namespace Go.Proofs.YthjbodpeckebiaaGreatDoor
open Go.RowKit
theorem cd (s:ByteArray) (k:Nat) (h:k<s.size):bt s k=((s[k]'h).toNat:Int):=by unfold bt;rw[dif_pos h]
end Go.Proofs.YthjbodpeckebiaaGreatDoor
-- Trim
namespace Go.Proofs.YthjbodpeckebiaaGreatDoor
open Go.RowKit
def cu (r:Int):Bool:=decide (r=32\/r=9)
def ik (b:UInt8):Bool:=cu b.toNat
def bU (l:List UInt8):List UInt8:=((l.dropWhile ik).reverse.dropWhile ik).reverse
def bT (s:ByteArray):ByteArray:=⟨(bU s.data.toList).toArray⟩
theorem fp:∀(p l:List UInt8),(∀b∈p,ik b=true)->(p++l).dropWhile ik=l.dropWhile ik
 | [],_,_=>rfl
 | b :: p,l,h=>by
   rw[uS,List.dropWhile_cons,if_pos (h b (by simp)),fp p l (fun x hx=>h x (by simp[hx]))]
theorem kW {p:List UInt8} (h:∀b∈p,ik b=true):p.dropWhile ik=[]:=by
 have:=fp p [] h;rw[List.append_nil] at this;exact this
theorem nr {p:List UInt8} (l:List UInt8) (h:∀b∈p,ik b=true):bU (p++l)=bU l:=by
 unfold bU;rw[fp p l h]
theorem pZ {q:List UInt8} (l:List UInt8) (h:∀b∈q,ik b=true):bU (l++q)=bU l:=by
 unfold bU;rw[List.dropWhile_append];by_cases hl:(l.dropWhile ik).isEmpty=true
 ·rw[if_pos hl,kW h]
  rw[List.isEmpty_iff] at hl;rw[hl]
 ·rw[if_neg hl,List.reverse_append,fp q.reverse _ (fun b hb=>h b (by simpa using hb))]
theorem sK {l:List UInt8} (h1:∀b,l.head? = some b->ik b=false) (h2:∀b,l.getLast? = some b->ik b=false):bU l=l:=by
 unfold bU
 have e1:l.dropWhile ik=l:=by
  cases l with
  | nil=>rfl
  | cons b t=>rw[List.dropWhile_cons,if_neg (by rw[h1 b rfl];decide)]
 rw[e1]
 have e2:l.reverse.dropWhile ik=l.reverse:=by
  cases hr:l.reverse with
  | nil=>rfl
  | cons b t=>
    have:l.getLast? = some b:=by rw[<-List.head?_reverse,hr];rfl
    rw[List.dropWhile_cons,if_neg (by rw[h2 b this];decide)]
 rw[e2,List.reverse_reverse]
theorem ew {r:Int} (h:r=32\/r=9):cu r=true:=dT h
theorem iy {r:Int} (h1:r≠32) (h2:r≠9):cu r=false:=dF (by omega)
theorem j8 (s:ByteArray) (k:Nat) (h:k<s.size):ik (s[k]'h)=cu (bt s k):=by unfold ik;rw[cd s k h]
theorem ol (r:Int) (w:World):Calls Tryz.prog 212 #[.int .u8 r] w fun e w'=>e=.returned (.bool (cu r))/\w=w':=by
 by_cases h1:r=32
 ·have HV:=lH (ew (.inl h1))
  subst h1;go_enter Tryz.func212,Tryz.ntmps212
  go_wp2_with fail
  go_ret;rw[HV.out];exact⟨rfl,rfl⟩
 ·have e1:(r==32)=false:=by rw[tT];exact h1
  by_cases h2:r=9
  ·have HV:=lH (ew (.inr h2))
   subst h2;go_enter Tryz.func212,Tryz.ntmps212
   go_wp2_with fail
   go_ret;rw[HV.out];exact⟨rfl,rfl⟩
  ·have e2:(r==9)=false:=by rw[tT];exact h2
   have HV:=lH (iy h1 h2);go_enter Tryz.func212,Tryz.ntmps212
   go_wp2_with fail
   go_ret;rw[HV.out];exact⟨rfl,rfl⟩
theorem fm {r:Int} {p:Bool} (h:cu r=p) (w:World):Calls Tryz.prog 212 #[.int .u8 r] w fun e w'=>e=.returned (.bool p)/\w=w':=by
 subst h;exact ol r w
theorem cL {a b:ByteArray} (h:a.data.toList=b.data.toList):a=b:=by
 apply ByteArray.ext;exact Array.toList_inj.1 h
theorem gw {s:ByteArray} {k:Nat} (hk:k<=s.size) (h:∀j,j<k->cu (bt s j)=true):∀b∈s.data.toList.take k,ik b=true:=by
 intro b hb;obtain⟨j,hj,e⟩:=List.getElem_of_mem hb;rw[List.length_take] at hj;have hj':j<s.size:=by omega
 rw[List.getElem_take] at e;rw[<-e];show ik (s[j]'hj')=true;rw[j8];exact h j (by omega)
theorem lz {s:ByteArray} {k:Nat} (h:∀j,k<=j->j<s.size->cu (bt s j)=true):∀b∈s.data.toList.drop k,ik b=true:=by
 intro b hb;obtain⟨j,hj,e⟩:=List.getElem_of_mem hb;rw[t7] at hj
 have hj':k+j<s.size:=by
  have:s.data.toList.length=s.size:=by simp
  omega
 rw[List.getElem_drop] at e;rw[<-e];show ik (s[k+j]'hj')=true;rw[j8];exact h (k+j) (by omega) hj'
theorem qa {s:ByteArray} (h:∀j,j<s.size->cu (bt s j)=true):bT s=⟨#[]⟩:=by
 have:=gw (nR _) h;rw[uu (by simp)] at this;unfold bT bU;rw[kW this];rfl
theorem qX (s:ByteArray) {k j:Nat} (hkj:k<=j):s.data.toList=s.data.toList.take k++((s.extract k j).data.toList++s.data.toList.drop j):=by
 rw[Lib.extract_data];have h1:s.data.toList.drop j=(s.data.toList.drop k).drop (j - k):=by rw[uo];congr 1;omega
 rw[h1,vc,vc]
theorem rH {s:ByteArray} {k j:Nat} (hkj:k<j) (hj:j<=s.size) (h1:∀i,i<k->cu (bt s i)=true) (h2:∀i,j<=i->i<s.size->cu (bt s i)=true) (h3:cu (bt s k)=false) (h4:cu (bt s (j - 1))=false):bT s=s.extract k j:=by
 apply cL;show bU s.data.toList=_;rw[qX s (Nat.le_of_lt hkj),nr _ (gw (by omega) h1),pZ _ (lz h2)];refine sK (fun b hb=>?_) (fun b hb=>?_)
 ·rw[List.head?_eq_getElem?,Lib.extract_data,vb (by omega),uX,Nat.add_zero,tW (by simp;omega)] at hb
  have:=ve hb;rw[<-this];show ik (s[k]'(by omega))=false;rw[j8];exact h3
 ·rw[List.getLast?_eq_getElem?,Lib.extract_data,List.length_take,t7] at hb
  have hl:s.data.toList.length=s.size:=by simp
  rw[hl,show min (j - k) (s.size - k) - 1=j - k - 1 by omega,vb (by omega),uX,show k+(j - k - 1)=j - 1 by omega,tW (by simp;omega)] at hb;have:=ve hb;rw[<-this];show ik (s[j - 1]'(by omega))=false;rw[j8];exact h4
theorem fL (s:ByteArray) (hs:s.size<=9223372036854775807) (w:World):Calls Tryz.prog 172 #[.string s] w fun e w'=>e=.returned (.string (bT s))/\w=w':=by
 have hsi:(s.size:Int)<=9223372036854775807:=by omega
 go_enter Tryz.func172,Tryz.ntmps172
 go_wp2_with fail
 go_loop [3] (fun i=>∃k:Nat,k<=s.size/\i=.int .i64 k/\∀j,j<k->cu (bt s j)=true) (fun i=>s.size - (intOf i).toNat)
 case atStart=>exact⟨0,by omega,rfl,fun j hj=>by omega⟩
 case round=>
  obtain⟨k,hk,rfl,hall⟩:=hrel;have HA:=lH hall;clear hall;by_cases hlt:k<s.size
  ·have hki:(k:Int)<s.size:=by omega
   obtain⟨b,hb⟩:∃b,b=bt s k:=⟨_,rfl⟩;have hix:∀W:World,(Instr.index 9 (.string s) (.int .i64 k)).run Tryz.prog W=.ok (.int .u8 b) W:=by rw[hb];exact ar s k hlt
   cases hbl:cu b
   ·have HB:=lH hbl
    have HBB:=lH hb;clear hb hbl;go_wp2_with (go_at_call 212;refine(fm HB.out _).mono ?_;rintro e' w' ⟨rfl,rfl⟩)
    go_loop [4] (fun i=>∃j:Nat,k+1<=j/\j<=s.size/\i=.int .i64 j/\∀x,j<=x->x<s.size->cu (bt s x)=true) (fun i=>(intOf i).toNat)
    case atStart=>exact⟨s.size,by omega,nR _,rfl,fun x h1 h2=>by omega⟩
    case round=>
     obtain⟨j,hj1,hj2,rfl,hall⟩:=hrel;have HC:=lH hall;clear hall hix;obtain⟨i,rfl⟩:∃i,j=i+1:=⟨j - 1,by omega⟩;have hji:(k:Int)<(i:Int)+1:=by omega
     have hjk:(i:Int)+1<=9223372036854775807:=by omega
     have hjs:(i:Int)<s.size:=by omega
     obtain⟨c,hc⟩:∃c,c=bt s i:=⟨_,rfl⟩;have hix:∀W:World,(Instr.index 9 (.string s) (.int .i64 i)).run Tryz.prog W=.ok (.int .u8 c) W:=by rw[hc];exact ar s i (by omega)
     cases hcl:cu c
     ·have HD:=lH hcl
      have HR:Hid (bT s=s.extract k (i+1)):=rH (by omega) hj2 HA.out HC.out (HBB.out▸HB.out) (by rw[Nat.add_sub_cancel];exact hc▸hcl);have hsl:=fun(W:World)=>run_slice_string (w:=W) 9 s .i64 .i64 (k:Int) ((i:Int)+1) Tryz.underlying9 (by omega) (by omega) (by omega);have e1:((i:Int)+1).toNat=i+1:=rfl;have e2:(k:Int).toNat=k:=rfl;rw[e1,e2] at hsl;clear hc hcl e1 e2;go_wp2_with (go_at_call 212;refine(fm HD.out _).mono ?_;rintro e' w' ⟨rfl,rfl⟩)
      go_ret;rw[HR.out];exact⟨rfl,rfl⟩
     ·have HD:=lH hcl
      have hne:Hid (k+1<=i):=by
       show k+1<=i;rcases (by omega:k+1<=i\/i=k) with h|h
       ·exact h
       ·rw[hc,h] at hcl
        have:=HB.out;rw[HBB.out,hcl] at this;cases this
      have HE:Hid (∀x,i<=x->x<s.size->cu (bt s x)=true):=by
       show ∀x,i<=x->x<s.size->cu (bt s x)=true;intro x h1 h2;rcases (by omega:x=i\/i+1<=x) with rfl|h
       ·rw[<-hc];exact hcl
       ·exact HC.out x h h2
      clear hc hcl;go_wp2_with (go_at_call 212;refine(fm HD.out _).mono ?_;rintro e' w' ⟨rfl,rfl⟩)
      go_round
      case rel=>exact⟨i,hne.out,by omega,by go_num,HE.out⟩
      case measure=>simp[intOf]
   ·have HB:=lH hbl
    have HE:Hid (∀j,j<k+1->cu (bt s j)=true):=by
     show ∀j,j<k+1->cu (bt s j)=true;intro x h1;rcases (by omega:x=k\/x<k) with rfl|h
     ·rw[<-hb];exact hbl
     ·exact HA.out x h
    clear hb hbl;go_wp2_with (go_at_call 212;refine(fm HB.out _).mono ?_;rintro e' w' ⟨rfl,rfl⟩)
    go_round
    case rel=>exact⟨k+1,by omega,by go_num,HE.out⟩
    case measure=>simp[intOf];omega
  ·obtain rfl:k=s.size:=by omega
   have HR:Hid (bT s=ByteArray.empty):=qa HA.out;have hsl:=fun(W:World)=>run_slice_string (w:=W) 9 s .i64 .i64 (s.size:Int) (s.size:Int) Tryz.underlying9 (by omega) (by omega) (by omega);have e2:(s.size:Int).toNat=s.size:=rfl;rw[e2] at hsl;have hd:decide ((s.size:Int)<s.size)=false:=by rw[tZ];omega
   clear e2 hlt hk;go_wp2_with fail
   refine wp_loop_rounds 1 ?_;rw[rounds_succ];go_wp2_with fail
   go_ret;rw[HR.out];exact⟨rfl,rfl⟩
end Go.Proofs.YthjbodpeckebiaaGreatDoor
-- StartB
namespace Go.Proofs.YthjbodpeckebiaaGreatDoor
open Go.RowKit
theorem ny {s:ByteArray} (h:bK s=true):s.size=8:=by
 unfold bK at h;rw[ux,tY] at h;exact h.1
theorem l7 {s:ByteArray} (h:bK s=true):48<=bt s 7/\bt s 7<=57:=by
 unfold bK at h;rw[ux,ux,ux,ux] at h;have:=h.2.2.2.2;unfold cg at this;rw[tY] at this;exact this
theorem l8 {s:ByteArray} (h:bK s=false):aH s=(0,3):=by unfold aH;rw[if_pos h]
theorem iU {s:ByteArray} (h:bK s=true) (h5:bt s 5≠49):aH s=(0,9):=by unfold aH;rw[if_neg (by rw[h];decide),if_neg h5]
theorem l9 {s:ByteArray} (h:bK s=true) (h5:bt s 5=49) (h7:bt s 7=48):aH s=(0,0):=by unfold aH;rw[if_neg (by rw[h];decide),if_pos h5,if_pos h7]
theorem nz {s:ByteArray} (h:bK s=true) (h5:bt s 5=49) (h7:bt s 7≠48):aH s=(1,0):=by unfold aH;rw[if_neg (by rw[h];decide),if_pos h5,if_neg h7]
theorem dh {s:ByteArray} (hs:s.size<=9223372036854775807) {p:Bool} (h:bK s=p) (w:World):Calls Tryz.prog 168 #[.string s] w fun e w'=>e=.returned (.bool p)/\w=w':=by
 subst h;exact mt s hs w
theorem fY (s:ByteArray) (hs:s.size<=9223372036854775807) {k e:Int} (hv:aH s=(k,e)) (w:World):Calls Tryz.prog 167 #[.string s] w fun r w'=>r=.returned (.tuple #[.int .i64 k,.int .i64 e])/\w=w':=by
 have HV:=lH hv;have HS:=lH hs;clear hv;cases hf:bK s
 ·have HK:Hid ((0,3)=(k,e)):=by rw[<-HV.out,l8 hf];exact rfl
  have HF:=lH hf;clear hf;go_enter Tryz.func167,Tryz.ntmps167
  go_wp2_with (go_at_call 168;refine(dh HS.out HF.out _).mono ?_;rintro e' w' ⟨rfl,rfl⟩)
  go_ret2
  obtain⟨rfl,rfl⟩:=uC HK.out;exact⟨rfl,rfl⟩
 ·have h8:=ny hf
  have hr7:=l7 hf;have i5:∀W:World,(Instr.index 9 (.string s) (.int .i64 5)).run Tryz.prog W=.ok (.int .u8 (bt s 5)) W:=ar s 5 (by omega);have i7:∀W:World,(Instr.index 9 (.string s) (.int .i64 7)).run Tryz.prog W=.ok (.int .u8 (bt s 7)) W:=ar s 7 (by omega);obtain⟨b5,hb5⟩:∃b,b=bt s 5:=⟨_,rfl⟩;obtain⟨b7,hb7⟩:∃b,b=bt s 7:=⟨_,rfl⟩;rw[<-hb5] at i5;rw[<-hb7] at i7 hr7;have HF:=lH hf;have HB5:=lH hb5;have HB7:=lH hb7;clear hf hb5 hb7 h8;by_cases h5:b5=49
  ·by_cases h7:b7=48
   ·have HK:Hid ((0,0)=(k,e)):=by rw[<-HV.out,l9 HF.out (HB5.out▸h5) (HB7.out▸h7)];exact rfl
    subst h5 h7;go_enter Tryz.func167,Tryz.ntmps167
    go_wp2_with (go_at_call 168;refine(dh HS.out HF.out _).mono ?_;rintro e' w' ⟨rfl,rfl⟩)
    go_ret2
    obtain⟨rfl,rfl⟩:=uC HK.out;exact⟨rfl,rfl⟩
   ·have HK:Hid ((1,0)=(k,e)):=by rw[<-HV.out,nz HF.out (HB5.out▸h5) (HB7.out▸h7)];exact rfl
    have h7':(b7==48)=false:=by simpa using h7
    subst h5;go_enter Tryz.func167,Tryz.ntmps167
    go_wp2_with (go_at_call 168;refine(dh HS.out HF.out _).mono ?_;rintro e' w' ⟨rfl,rfl⟩)
    go_ret2
    obtain⟨rfl,rfl⟩:=uC HK.out;exact⟨rfl,rfl⟩
  ·have HK:Hid ((0,9)=(k,e)):=by rw[<-HV.out,iU HF.out (HB5.out▸h5)];exact rfl
   have h5':(b5==49)=false:=by simpa using h5
   go_enter Tryz.func167,Tryz.ntmps167
   go_wp2_with (go_at_call 168;refine(dh HS.out HF.out _).mono ?_;rintro e' w' ⟨rfl,rfl⟩)
   go_ret2
   obtain⟨rfl,rfl⟩:=uC HK.out;exact⟨rfl,rfl⟩
end Go.Proofs.YthjbodpeckebiaaGreatDoor
-- StartC
namespace Go.Proofs.YthjbodpeckebiaaGreatDoor
open Go.RowKit
end Go.Proofs.YthjbodpeckebiaaGreatDoor
-- NumberW
namespace Go.Proofs.YthjbodpeckebiaaGreatDoor
open Go.RowKit
theorem lu (s:ByteArray) (k:Nat) (h:k<s.size) {b:Int} (hb:b=bt s k) (W:World):(Instr.index 9 (.string s) (.int .i64 (k:Int))).run Tryz.prog W=.ok (.int .u8 b) W:=by rw[hb];exact ar s k h W
end Go.Proofs.YthjbodpeckebiaaGreatDoor
-- PrP
namespace Go.Proofs.YthjbodpeckebiaaGreatDoor
open Go.RowKit
def ai (l:List UInt8):Nat:=(l.takeWhile ik).length
def tkB (b:UInt8):Bool:=aD b.toNat
def bw (l:List UInt8):Nat:=(l.takeWhile tkB).length
def gV:List UInt8->Option (Nat×List UInt8)
 | []=>none
 | b :: t=>if b=34 then some (1,[]) else if b=92 then
     (
      match t with
      | []=>none
      | c :: r=>if ay c.toNat=true then (gV r).map (fun p=>(p.1+2,c :: p.2)) else none)
   else if ay b.toNat=true then (gV t).map (fun p=>(p.1+1,b :: p.2)) else none
def ma:List UInt8->Option (Nat×List UInt8)
 | []=>none
 | b :: t=>if b=34 then (gV t).map (fun p=>(p.1+1,p.2)) else none
def ji (l:List UInt8):Option Nat:=
 match l.drop (ai l) with
 | []=>some 0
 | b :: r=>if b=61 then
     (
      if 0<bw (r.drop (ai r)) then some (ai l+1+ai r+bw (r.drop (ai r)))
      else (ma (r.drop (ai r))).map (fun p=>ai l+1+ai r+p.1))
   else some 0
def eD (l:List UInt8):Option Nat:=
 match l.drop (ai l) with
 | []=>none
 | b :: r=>if b=59 then
     (
      if bw (r.drop (ai r))=0 then none
      else (ji (r.drop (ai r+bw (r.drop (ai r))))).map (fun n=>ai l+1+ai r+bw (r.drop (ai r))+n))
   else none
def dm (l:List UInt8):Option Nat:=
 match l with
 | []=>some 0
 | c :: t=>
   match eD (c :: t) with
   | none=>none
   | some 0=>none
   | some (n+1)=>(dm (t.drop n)).map (·+1)
termination_by l.length
decreasing_by simp only[t4,t7];omega
def bO (c:Int):Int:=if 65<=c/\c<=90 then c+32 else c
def tA (b:UInt8):UInt8:=if 65<=b.toNat/\b.toNat<=90 then b+32 else b
def qZ (l:List UInt8):List UInt8:=l.map tA
def aS (s:ByteArray):ByteArray:=⟨(qZ s.data.toList).toArray⟩
theorem qY (b:UInt8):((tA b).toNat:Int)=bO b.toNat:=by
 unfold tA bO;have hb:b.toNat<256:=b.toNat_lt;by_cases h:65<=b.toNat/\b.toNat<=90
 ·rw[if_pos h,if_pos (by omega),UInt8.toNat_add]
  show (((b.toNat+32) % 256:Nat):Int)=_;omega
 ·rw[if_neg h,if_neg (by omega)]
theorem bg (s:ByteArray):(aS s).size=s.size:=by
 show (qZ s.data.toList).toArray.size=s.size;unfold qZ;simp
def aF (s:ByteArray):ByteArray×Nat×Int:=
 if s.size=0 then (⟨#[]⟩,0,2)
 else if bw s.data.toList=0 then (⟨#[]⟩,0,3)
 else match dm (s.data.toList.drop (bw s.data.toList)) with
  | none=>(⟨#[]⟩,0,3)
  | some k=>(aS (s.extract 0 (bw s.data.toList)),k,0)
theorem dn (l:List UInt8):ai l<=l.length:=by unfold ai;exact List.Sublist.length_le (List.takeWhile_sublist _)
theorem g6 (l:List UInt8):bw l<=l.length:=by unfold bw;exact List.Sublist.length_le (List.takeWhile_sublist _)
theorem m7:∀(n:Nat) (l:List UInt8) (p:Nat×List UInt8),l.length<=n->gV l=some p->1<=p.1/\p.1<=l.length/\p.2.length<=l.length
 | _,[],_,_,h=>by rw[gV] at h;cases h
 | 0,b :: t,_,hn,_=>by simp at hn
 | n+1,b :: t,p,hn,h=>by
   have ht:t.length<=n:=by simpa using hn
   rw[gV.eq_def] at h;simp only at h;split at h
   ·cases h;simp
   split at h
   ·cases t with
    | nil=>cases h
    | cons c r=>
      simp only at h;split at h
      ·cases hq:gV r with
       | none=>rw[hq] at h;cases h
       | some q=>
         rw[hq] at h;cases h
         have:=m7 n r q (by simp at ht;omega) hq;simp only[t4];omega
      ·cases h
   split at h
   ·cases hq:gV t with
    | none=>rw[hq] at h;cases h
    | some q=>
      rw[hq] at h;cases h
      have:=m7 n t q ht hq;simp only[t4];omega
   ·cases h
theorem rk {l:List UInt8} {p:Nat×List UInt8} (h:ma l=some p):2<=p.1/\p.1<=l.length/\p.2.length<=l.length:=by
 cases l with
 | nil=>cases h
 | cons b t=>
   unfold ma at h;simp only at h;split at h
   ·cases hq:gV t with
    | none=>rw[hq] at h;cases h
    | some q=>
      rw[hq] at h;cases h
      have:=m7 _ t q (nR _) hq;simp only[t4];omega
   ·cases h
theorem dC {l r:List UInt8} {n:Nat} {b:UInt8} (h:l.drop n=b :: r):n+1+r.length=l.length:=by
 have:=uF List.length h;rw[t7,t4] at this;have:n<l.length:=by omega
 omega
theorem sN {l:List UInt8} {n:Nat} (h:ji l=some n):n<=l.length:=by
 unfold ji at h;split at h
 ·cases h;omega
 ·rename_i b r hb
  have h1:=dC hb;have h2:=dn r;split at h
  ·split at h
   ·cases h
    have:=g6 (r.drop (ai r));rw[t7] at this;omega
   ·cases hq:ma (r.drop (ai r)) with
    | none=>rw[hq] at h;cases h
    | some q=>
      rw[hq] at h;cases h
      have:=rk hq;rw[t7] at this;dsimp only
      omega
  ·cases h;omega
theorem nQ {l:List UInt8} {n:Nat} (h:eD l=some n):2<=n/\n<=l.length:=by
 unfold eD at h;split at h
 ·cases h
 ·rename_i b r hb
  have h1:=dC hb;have h2:=dn r;split at h
  ·split at h
   ·cases h
   ·rename_i h3
    have h4:=g6 (r.drop (ai r));rw[t7] at h4;cases hv:ji (r.drop (ai r+bw (r.drop (ai r)))) with
    | none=>rw[hv] at h;cases h
    | some m=>
      rw[hv] at h;cases h
      have:=sN hv;rw[t7] at this;dsimp only
      omega
  ·cases h
theorem mT {l:List UInt8} (hl:l≠[]):dm l=match eD l with|none=>none|some n=>(dm (l.drop n)).map (·+1):=by
 cases l with
 | nil=>exact absurd rfl hl
 | cons c t=>
   rw[dm];cases hp:eD (c :: t) with
   | none=>rfl
   | some n=>
     have:=nQ hp;obtain⟨m,rfl⟩:∃m,n=m+1:=⟨n - 1,by omega⟩;rfl
theorem pm:dm []=some 0:=by rw[dm]
end Go.Proofs.YthjbodpeckebiaaGreatDoor
-- LsP
namespace Go.Proofs.YthjbodpeckebiaaGreatDoor
open Go.RowKit
structure Sc where
 q:Bool
 s:Bool
 d:Nat
def kG:Sc:=⟨false,false,0⟩
def Sc.closed (x:Sc):Bool:=!x.q&&(!x.s&&x.d==0)
def Sc.see (x:Sc) (c:Int):Sc:=
 if x.s=true then ⟨x.q,false,x.d⟩
 else if c=92 then ⟨x.q,x.q||decide (0<x.d),x.d⟩
 else if x.q=true then ⟨decide (c≠34),false,x.d⟩
 else if c=40 then ⟨false,false,x.d+1⟩
 else if 0<x.d then (if c=41 then ⟨false,false,x.d - 1⟩ else ⟨false,false,x.d⟩)
 else if c=34 then ⟨true,false,0⟩
 else ⟨false,false,0⟩
theorem qI {x:Sc} (h:x.closed=true):x=kG:=by
 obtain⟨q,s,d⟩:=x;unfold Sc.closed at h;cases q<;>cases s<;>simp at h ⊢
 subst h;rfl
def gA:Sc->List UInt8->Sc
 | x,[]=>x
 | x,c :: l=>gA (x.see c.toNat) l
def gU:Sc->List UInt8->List UInt8->List (List UInt8)
 | _,a,[]=>[a]
 | x,a,c :: l=>if (c==44&&x.closed)=true then a :: gU x [] l else gU (x.see c.toNat) (a++[c]) l
def bu (ps:List (List UInt8)):List ByteArray:=(ps.map fun p=>(⟨(bU p).toArray⟩:ByteArray)).filter fun e=>!e.toList.isEmpty
def cx (s:ByteArray):Option (List ByteArray):=
 if (gA kG s.data.toList).closed=true then some (bu (gU kG [] s.data.toList)) else none
end Go.Proofs.YthjbodpeckebiaaGreatDoor
-- LsW
namespace Go.Proofs.YthjbodpeckebiaaGreatDoor
open Go.RowKit
def Sc.row (x:Sc):Array Value:=#[.bool x.q,.bool x.s,.int .i64 (x.d:Int)]
theorem nh {w:World} {g:Nat} {q s:Bool} {d:Int} (h:ac w g #[.bool q,.bool s,.int .i64 d] 222) (v:Bool):ac (w.setCell ⟨g,0,none⟩ (.bool v)) g #[.bool v,.bool s,.int .i64 d] 222:=by
 have:=h.set 0 (.bool v);simpa using this
theorem kF {w:World} {g:Nat} {q s:Bool} {d:Int} (h:ac w g #[.bool q,.bool s,.int .i64 d] 222) (v:Bool):ac (w.setCell ⟨g,1,none⟩ (.bool v)) g #[.bool q,.bool v,.int .i64 d] 222:=by
 have:=h.set 1 (.bool v);simpa using this
theorem rx {w:World} {g:Nat} {q s:Bool} {d:Int} (h:ac w g #[.bool q,.bool s,.int .i64 d] 222) (v:Int):ac (w.setCell ⟨g,2,none⟩ (.int .i64 v)) g #[.bool q,.bool s,.int .i64 v] 222:=by
 have:=h.set 2 (.int .i64 v);simpa using this
theorem tP {w:World} {g:Nat} {q:Bool} {d:Nat} {c:Int} (h:ac w g #[.bool q,.bool true,.int .i64 (d:Int)] 222) :
 Calls Tryz.prog 220 #[.pointer (some ⟨g,0,none⟩),.int .u8 c] w fun e w'=>e=.returned (.tuple #[])/\ac w' g (Sc.see ⟨q,true,d⟩ c).row 222/\aa (fun k=>k=g) w w':=by
 have H:=lH h;obtain⟨k0,k1,k2⟩:=qd h 0 1 2;obtain⟨f0,f1,f2⟩:=qB h 0 1 2;simp at k0 k1 k2;have HV:Hid (Sc.see ⟨q,true,d⟩ c=⟨q,false,d⟩):=by show _=_;simp[Sc.see]
 clear h;go_enter Tryz.func220,Tryz.ntmps220
 go_wp2_with fail
 go_end0
 rw[HV.out];refine⟨rfl,?_,aa.setCell (P:=fun k=>k=g) (aa.refl _ _) rfl _⟩;have:=kF H.out false;simpa [Sc.row] using this
theorem sF {w:World} {g:Nat} {d:Nat} {c:Int} (h:ac w g #[.bool true,.bool false,.int .i64 (d:Int)] 222) (h1:c=92):
 Calls Tryz.prog 220 #[.pointer (some ⟨g,0,none⟩),.int .u8 c] w fun e w'=>e=.returned (.tuple #[])/\ac w' g (Sc.see ⟨true,false,d⟩ c).row 222/\aa (fun k=>k=g) w w':=by
 have H:=lH h;obtain⟨k0,k1,k2⟩:=qd h 0 1 2;obtain⟨f0,f1,f2⟩:=qB h 0 1 2;simp at k0 k1 k2;subst h1;have HV:Hid (Sc.see ⟨true,false,d⟩ 92=⟨true,true,d⟩):=by show _=_;simp[Sc.see]
 clear h;go_enter Tryz.func220,Tryz.ntmps220
 go_wp2_with fail
 go_end0
 rw[HV.out];refine⟨rfl,?_,aa.setCell (P:=fun k=>k=g) (aa.refl _ _) rfl _⟩;have:=kF H.out true;simpa [Sc.row] using this
theorem sD {w:World} {g:Nat} {d:Nat} {c:Int} (h:ac w g #[.bool false,.bool false,.int .i64 (d:Int)] 222) (h1:c=92) (hd:0<d):
 Calls Tryz.prog 220 #[.pointer (some ⟨g,0,none⟩),.int .u8 c] w fun e w'=>e=.returned (.tuple #[])/\ac w' g (Sc.see ⟨false,false,d⟩ c).row 222/\aa (fun k=>k=g) w w':=by
 have H:=lH h;obtain⟨k0,k1,k2⟩:=qd h 0 1 2;obtain⟨f0,f1,f2⟩:=qB h 0 1 2;simp at k0 k1 k2;have d1:decide ((0:Int)<(d:Int))=true:=dT (by omega);have HV:Hid (Sc.see ⟨false,false,d⟩ c=⟨false,true,d⟩):=by show _=_;rw[h1];simp[Sc.see,hd]
 subst h1;clear h;go_enter Tryz.func220,Tryz.ntmps220
 go_wp2_with fail
 go_end0
 rw[HV.out];refine⟨rfl,?_,aa.setCell (P:=fun k=>k=g) (aa.refl _ _) rfl _⟩;have:=kF H.out true;simpa [Sc.row] using this
theorem sE {w:World} {g:Nat} {c:Int} (h:ac w g #[.bool false,.bool false,.int .i64 0] 222) (h1:c=92):
 Calls Tryz.prog 220 #[.pointer (some ⟨g,0,none⟩),.int .u8 c] w fun e w'=>e=.returned (.tuple #[])/\ac w' g (Sc.see ⟨false,false,0⟩ c).row 222/\aa (fun k=>k=g) w w':=by
 have H:=lH h;obtain⟨k0,k1,k2⟩:=qd h 0 1 2;obtain⟨f0,f1,f2⟩:=qB h 0 1 2;simp at k0 k1 k2;subst h1;have HV:Hid (Sc.see ⟨false,false,0⟩ 92=⟨false,false,0⟩):=by show _=_;simp[Sc.see]
 clear h;go_enter Tryz.func220,Tryz.ntmps220
 go_wp2_with fail
 go_end0
 rw[HV.out];refine⟨rfl,?_,aa.setCell (P:=fun k=>k=g) (aa.refl _ _) rfl _⟩;have:=kF H.out false;simpa [Sc.row] using this
theorem tO {w:World} {g:Nat} {d:Nat} {c:Int} (h:ac w g #[.bool true,.bool false,.int .i64 (d:Int)] 222) (h1:c=34):
 Calls Tryz.prog 220 #[.pointer (some ⟨g,0,none⟩),.int .u8 c] w fun e w'=>e=.returned (.tuple #[])/\ac w' g (Sc.see ⟨true,false,d⟩ c).row 222/\aa (fun k=>k=g) w w':=by
 have H:=lH h;obtain⟨k0,k1,k2⟩:=qd h 0 1 2;obtain⟨f0,f1,f2⟩:=qB h 0 1 2;simp at k0 k1 k2;subst h1;have HV:Hid (Sc.see ⟨true,false,d⟩ 34=⟨false,false,d⟩):=by show _=_;simp[Sc.see]
 clear h;go_enter Tryz.func220,Tryz.ntmps220
 go_wp2_with fail
 go_end0
 rw[HV.out];refine⟨rfl,?_,aa.setCell (P:=fun k=>k=g) (aa.refl _ _) rfl _⟩;have:=nh H.out false;simpa [Sc.row] using this
theorem tN {w:World} {g:Nat} {d:Nat} {c:Int} (h:ac w g #[.bool true,.bool false,.int .i64 (d:Int)] 222) (h1:c≠92) (h2:c≠34):
 Calls Tryz.prog 220 #[.pointer (some ⟨g,0,none⟩),.int .u8 c] w fun e w'=>e=.returned (.tuple #[])/\ac w' g (Sc.see ⟨true,false,d⟩ c).row 222/\aa (fun k=>k=g) w w':=by
 have H:=lH h;obtain⟨k0,k1,k2⟩:=qd h 0 1 2;obtain⟨f0,f1,f2⟩:=qB h 0 1 2;simp at k0 k1 k2;have HV:Hid (Sc.see ⟨true,false,d⟩ c=⟨true,false,d⟩):=by show _=_;unfold Sc.see;simp[h1,h2]
 have x92a:(c==92)=false:=by rw[tT];exact h1
 have x92b:(c != 92)=true:=by rw[uI];exact h1
 have x92d:decide (c=92)=false:=dF h1;have x34a:(c==34)=false:=by rw[tT];exact h2
 have x34b:(c != 34)=true:=by rw[uI];exact h2
 have x34d:decide (c=34)=false:=dF h2;clear h h1 h2;go_enter Tryz.func220,Tryz.ntmps220
 go_wp2_with fail
 go_end0
 rw[HV.out];refine⟨rfl,?_,aa.setCell (P:=fun k=>k=g) (aa.refl _ _) rfl _⟩;have:=nh H.out true;simpa [Sc.row] using this
theorem tK {w:World} {g:Nat} {d:Nat} {c:Int} (h:ac w g #[.bool false,.bool false,.int .i64 (d:Int)] 222) (h1:c=40) (hd:d<=1000000):
 Calls Tryz.prog 220 #[.pointer (some ⟨g,0,none⟩),.int .u8 c] w fun e w'=>e=.returned (.tuple #[])/\ac w' g (Sc.see ⟨false,false,d⟩ c).row 222/\aa (fun k=>k=g) w w':=by
 have H:=lH h;obtain⟨k0,k1,k2⟩:=qd h 0 1 2;obtain⟨f0,f1,f2⟩:=qB h 0 1 2;simp at k0 k1 k2;subst h1;have HV:Hid (Sc.see ⟨false,false,d⟩ 40=⟨false,false,(d+1)⟩):=by show _=_;simp[Sc.see]
 clear h;go_enter Tryz.func220,Tryz.ntmps220
 go_wp2_with fail
 go_end0
 rw[HV.out];refine⟨rfl,?_,aa.setCell (P:=fun k=>k=g) (aa.refl _ _) rfl _⟩;have:=rx H.out ((d:Int)+1);simpa [Sc.row] using this
theorem tI {w:World} {g:Nat} {d:Nat} {c:Int} (h:ac w g #[.bool false,.bool false,.int .i64 ((d+1:Nat):Int)] 222) (h1:c=41) (hd:d<=1000000):
 Calls Tryz.prog 220 #[.pointer (some ⟨g,0,none⟩),.int .u8 c] w fun e w'=>e=.returned (.tuple #[])/\ac w' g (Sc.see ⟨false,false,(d+1)⟩ c).row 222/\aa (fun k=>k=g) w w':=by
 have H:=lH h;obtain⟨k0,k1,k2⟩:=qd h 0 1 2;obtain⟨f0,f1,f2⟩:=qB h 0 1 2;simp at k0 k1 k2;have d1:decide ((0:Int)<((d+1:Nat):Int))=true:=dT (by omega);subst h1;have HV:Hid (Sc.see ⟨false,false,(d+1)⟩ 41=⟨false,false,d⟩):=by show _=_;simp[Sc.see]
 clear h;go_enter Tryz.func220,Tryz.ntmps220
 go_wp2_with fail
 go_end0
 rw[HV.out];refine⟨rfl,?_,aa.setCell (P:=fun k=>k=g) (aa.refl _ _) rfl _⟩;have:=rx H.out (d:Int);simpa [Sc.row] using this
theorem tJ {w:World} {g:Nat} {d:Nat} {c:Int} (h:ac w g #[.bool false,.bool false,.int .i64 ((d+1:Nat):Int)] 222) (h1:c≠92) (h2:c≠40) (h3:c≠41) (hd:d<=1000000):
 Calls Tryz.prog 220 #[.pointer (some ⟨g,0,none⟩),.int .u8 c] w fun e w'=>e=.returned (.tuple #[])/\ac w' g (Sc.see ⟨false,false,(d+1)⟩ c).row 222/\aa (fun k=>k=g) w w':=by
 have H:=lH h;obtain⟨k0,k1,k2⟩:=qd h 0 1 2;obtain⟨f0,f1,f2⟩:=qB h 0 1 2;simp at k0 k1 k2;have HV:Hid (Sc.see ⟨false,false,(d+1)⟩ c=⟨false,false,(d+1)⟩):=by show _=_;unfold Sc.see;simp[h1,h2,h3]
 have x92a:(c==92)=false:=by rw[tT];exact h1
 have x92b:(c != 92)=true:=by rw[uI];exact h1
 have x92d:decide (c=92)=false:=dF h1;have x40a:(c==40)=false:=by rw[tT];exact h2
 have x40b:(c != 40)=true:=by rw[uI];exact h2
 have x40d:decide (c=40)=false:=dF h2;have x41a:(c==41)=false:=by rw[tT];exact h3
 have x41b:(c != 41)=true:=by rw[uI];exact h3
 have x41d:decide (c=41)=false:=dF h3;have d1:decide ((0:Int)<((d+1:Nat):Int))=true:=dT (by omega);have d2:(((d+1:Nat):Int)==0)=false:=by rw[tT];omega
 clear h h1 h2 h3;go_enter Tryz.func220,Tryz.ntmps220
 go_wp2_with fail
 go_end0
 rw[HV.out];exact⟨rfl,H.out,aa.refl _ _⟩
theorem tM {w:World} {g:Nat} {c:Int} (h:ac w g #[.bool false,.bool false,.int .i64 0] 222) (h1:c=34):
 Calls Tryz.prog 220 #[.pointer (some ⟨g,0,none⟩),.int .u8 c] w fun e w'=>e=.returned (.tuple #[])/\ac w' g (Sc.see ⟨false,false,0⟩ c).row 222/\aa (fun k=>k=g) w w':=by
 have H:=lH h;obtain⟨k0,k1,k2⟩:=qd h 0 1 2;obtain⟨f0,f1,f2⟩:=qB h 0 1 2;simp at k0 k1 k2;subst h1;have HV:Hid (Sc.see ⟨false,false,0⟩ 34=⟨true,false,0⟩):=by show _=_;simp[Sc.see]
 clear h;go_enter Tryz.func220,Tryz.ntmps220
 go_wp2_with fail
 go_end0
 rw[HV.out];refine⟨rfl,?_,aa.setCell (P:=fun k=>k=g) (aa.refl _ _) rfl _⟩;have:=nh H.out true;simpa [Sc.row] using this
theorem tL {w:World} {g:Nat} {c:Int} (h:ac w g #[.bool false,.bool false,.int .i64 0] 222) (h1:c≠92) (h2:c≠40) (h3:c≠34):
 Calls Tryz.prog 220 #[.pointer (some ⟨g,0,none⟩),.int .u8 c] w fun e w'=>e=.returned (.tuple #[])/\ac w' g (Sc.see ⟨false,false,0⟩ c).row 222/\aa (fun k=>k=g) w w':=by
 have H:=lH h;obtain⟨k0,k1,k2⟩:=qd h 0 1 2;obtain⟨f0,f1,f2⟩:=qB h 0 1 2;simp at k0 k1 k2;have HV:Hid (Sc.see ⟨false,false,0⟩ c=⟨false,false,0⟩):=by show _=_;unfold Sc.see;simp[h1,h2,h3]
 have x92a:(c==92)=false:=by rw[tT];exact h1
 have x92b:(c != 92)=true:=by rw[uI];exact h1
 have x92d:decide (c=92)=false:=dF h1;have x40a:(c==40)=false:=by rw[tT];exact h2
 have x40b:(c != 40)=true:=by rw[uI];exact h2
 have x40d:decide (c=40)=false:=dF h2;have x34a:(c==34)=false:=by rw[tT];exact h3
 have x34b:(c != 34)=true:=by rw[uI];exact h3
 have x34d:decide (c=34)=false:=dF h3;clear h h1 h2 h3;go_enter Tryz.func220,Tryz.ntmps220
 go_wp2_with fail
 go_end0
 rw[HV.out];exact⟨rfl,H.out,aa.refl _ _⟩
theorem jW {w:World} {g:Nat} (x:Sc) (c:Int) (h:ac w g x.row 222) (hd:x.d<=1000000):
 Calls Tryz.prog 220 #[.pointer (some ⟨g,0,none⟩),.int .u8 c] w fun e w'=>e=.returned (.tuple #[])/\ac w' g (x.see c).row 222/\aa (fun k=>k=g) w w':=by
 obtain⟨q,s,d⟩:=x;simp only at hd;cases s with
 | true=>exact tP h
 | false=>
   by_cases h92:c=92
   ·cases q with
    | true=>exact sF h h92
    | false=>
      cases d with
      | zero=>exact sE h h92
      | succ d=>exact sD h h92 (Nat.succ_pos d)
   cases q with
   | true=>
     by_cases h34:c=34
     ·exact tO h h34
     ·exact tN h h92 h34
   | false=>
     by_cases h40:c=40
     ·exact tK h h40 hd
     cases d with
     | zero=>
       by_cases h34:c=34
       ·exact tM h h34
       ·exact tL h h92 h40 h34
     | succ d=>
       by_cases h41:c=41
       ·exact tI h h41 (by omega)
       ·exact tJ h h92 h40 h41 (by omega)
theorem ir {w:World} {g:Nat} (x:Sc) (h:ac w g x.row 222):
 Calls Tryz.prog 221 #[.pointer (some ⟨g,0,none⟩)] w fun e w'=>e=.returned (.bool x.closed)/\w=w':=by
 obtain⟨q,s,d⟩:=x;obtain⟨k0,k1,k2⟩:=qd h 0 1 2;simp[Sc.row] at k0 k1 k2;obtain⟨Z,hZ⟩:∃Z,Z=((d:Int)==0):=⟨_,rfl⟩;have hz:((d:Int)==0)=Z:=hZ.symm
 have HV:Hid ((⟨q,s,d⟩:Sc).closed=(!q&&(!s&&Z))):=by
  have e:(d==0)=((d:Int)==0):=by rw[uU,uB,uB];omega
  show _=_;unfold Sc.closed;rw[hZ,<-e]
 clear hZ h;cases q<;>cases s<;>cases Z
 all_goals
  go_enter Tryz.func221,Tryz.ntmps221
  go_wp2_with fail
  go_ret;rw[HV.out];exact⟨rfl,rfl⟩
theorem s7 (x:Sc) (c:Int):(x.see c).d<=x.d+1:=by
 obtain⟨q,s,d⟩:=x;unfold Sc.see;simp only;repeat' split
 all_goals first|exact uN _|exact nR _|exact tX _|exact nT (Nat.sub_le _ _) (uN _)
theorem cz (s:ByteArray) (k:Nat) (h:k<s.size):∃c:UInt8,bt s k=c.toNat/\s.data.toList.drop k=c :: s.data.toList.drop (k+1):=by
 refine⟨s[k]'h,cd s k h,?_⟩;have:=un (l:=s.data.toList) (i:=k) (by simpa using h);exact this
theorem jE (s:ByteArray):s.data.toList.drop s.size=[]:=ug (by simp)
theorem kY (s:ByteArray) (hs:s.size<=1000000) (w:World):
 Calls Tryz.prog 185 #[.string s] w fun e w'=>e=.returned (.bool (gA kG s.data.toList).closed)/\Below w.heap.size w w':=by
 obtain⟨F,hF⟩:∃F,F=gA kG s.data.toList:=⟨_,rfl⟩;have HF:=lH hF;rw[<-hF];clear hF;have hsi:(s.size:Int)<=1000000:=by omega
 go_enter Tryz.func185,Tryz.ntmps185
 go_wp2_with fail
 go_loopw [7] (fun i wr=>∃(k:Nat) (x:Sc),k<=s.size/\i=.int .i64 k/\gA x (s.data.toList.drop k)=F/\x.d<=k/\ac wr w.heap.size x.row 222/\Below w.heap.size w wr) (fun i _=>s.size - (intOf i).toNat)
 case atStart=>exact⟨0,kG,tX _,rfl,HF.out.symm,nR _,ac.new _ _ _,(tU _ _).alloc (nR _) _⟩
 case round=>
  obtain⟨k,x,hk,rfl,hx,hd,hb,hbel⟩:=hrel;have HX:=lH hx;have HB:=lH hb;have HBE:=lH hbel;have HD:=lH hd;clear hx hb hbel;by_cases hlt:k<s.size
  ·have hix:=ar s k hlt
   obtain⟨c,hc,hdr⟩:=cz s k hlt;obtain⟨b,hb⟩:∃b,b=bt s k:=⟨_,rfl⟩;rw[<-hb] at hix
   have HN:Hid (gA (x.see b) (s.data.toList.drop (k+1))=F):=by
    show _=_;rw[<-HX.out,hdr,hb,hc];rfl
   have hk1:decide ((k:Int)<(s.size:Int))=true:=dT (by omega);clear hc hdr hb;go_wp2_with (go_at_call 220;refine(jW x b HB.out (nT HD.out (nT hk hs))).mono ?_;rintro e' w' ⟨rfl,hb',ht'⟩;have HB':=lH hb';have HBE':=lH (HBE.out.trans (ht'.below (B:=w.heap.size) (fun j _ hj=>by rw[hj];exact nR _) HBE.out.size));clear hb' ht')
   go_roundw
   case rel=>exact⟨k+1,x.see b,hlt,by go_num,HN.out,nT (s7 x b) (Nat.succ_le_succ HD.out),HB'.out,HBE'.out⟩
   case measure=>simp[intOf];omega
  ·have hk1:decide ((k:Int)<(s.size:Int))=false:=dF (by omega)
   have hkn:k=s.size:=by omega
   have HE:Hid (x=F):=by
    show x=F;rw[<-HX.out,hkn,jE];rfl
   clear hkn;go_wp2_with (go_at_call 221;refine(ir x HB.out).mono ?_;rintro e' w' ⟨rfl,rfl⟩)
   go_ret;rw[HE.out];exact⟨rfl,HBE.out⟩
end Go.Proofs.YthjbodpeckebiaaGreatDoor
-- HostP
namespace Go.Proofs.YthjbodpeckebiaaGreatDoor
open Go.RowKit
def bW (c:Int):Bool:=decide (48<=c/\c<=57\/65<=c/\c<=70\/97<=c/\c<=102)
def cQ (c:Int):Bool:=decide (c=45\/c=46\/c=95\/c=126\/c=33\/c=36\/c=38\/c=39\/c=40\/c=41\/c=42\/c=43\/c=44\/c=59\/c=61)
def aE (c:Int):Bool:=decide (48<=c/\c<=57\/65<=c/\c<=90\/97<=c/\c<=122)||cQ c
def rO (b:UInt8):Bool:=bW b.toNat
def dJ (b:UInt8):Bool:=aE b.toNat
def sg (c:Int):Bool:=bW c||decide (c=58\/c=46)
def fX (b:UInt8):Bool:=sg b.toNat
def bp:Nat->List UInt8->Bool
 | k,[]=>k==0
 | 0,c :: t=>if c=37 then bp 2 t else if dJ c=true then bp 0 t else false
 | k+1,c :: t=>if rO c=true then bp k t else false
def eU (l:List UInt8):Bool:=!l.isEmpty&&bp 0 l
def fE:List UInt8->Option Nat
 | []=>some 0
 | c :: t=>if c=37 then
     (
      match t with
      | a :: b :: r=>if rO a=true/\rO b=true then (fE r).map (·+3) else none
      | _=>none)
   else if dJ c=true then (fE t).map (·+1) else some 0
def eP (l:List UInt8):Bool:=
 match l with
 | []=>false
 | c :: t=>c==91&&(t.getLast? == some 93&&(!t.dropLast.isEmpty&&t.dropLast.all fX))
def je (l:List UInt8):Nat:=(l.takeWhile fX).length
def aM (l:List UInt8):Nat:=
 match l with
 | []=>0
 | c :: t=>if c=91 then (if je t=0 then 0 else if t[je t]? = some 93 then je t+2 else 0) else (fE (c :: t)).getD 0
def fw (l:List UInt8):Nat×Int×Int:=
 if l.isEmpty then (0,0,2)
 else if aM l=0 then (0,0,3)
 else if aM l=l.length then (l.length,80,0)
 else if l[aM l]?≠some 58 then (0,0,3)
 else if (al (l.drop (aM l+1)) 10 65535).2=5 then (0,0,5)
 else if (al (l.drop (aM l+1)) 10 65535).2≠0 then (0,0,3)
 else (aM l,(al (l.drop (aM l+1)) 10 65535).1,0)
def d4 (l:List UInt8) (I J:Int):Nat×Int×Int:=
 if l.isEmpty then (0,0,2)
 else if I<J\/I<0 then (if (eU l||eP l)=true then (l.length,80,0) else (0,0,3))
 else if (eU (l.take I.toNat)||eP (l.take I.toNat))=true then
  (
   if (al (l.drop (I.toNat+1)) 10 65535).2=5 then (0,0,5)
   else if (al (l.drop (I.toNat+1)) 10 65535).2≠0 then (0,0,3)
   else (I.toNat,(al (l.drop (I.toNat+1)) 10 65535).1,0))
 else (0,0,3)
theorem eb {c:UInt8} (h1:rO c=false) (h2:dJ c=false) (h3:c≠37):∀(l:List UInt8) (k:Nat),c∈l->bp k l=false
 | [],_,h=>by cases h
 | b :: t,0,h=>by
   rw[bp];rcases List.mem_cons.1 h with e|h
   ·subst e
    rw[if_neg h3,if_neg (by rw[h2];decide)]
   ·split
    ·exact eb h1 h2 h3 t 2 h
    ·split
     ·exact eb h1 h2 h3 t 0 h
     ·rfl
 | b :: t,k+1,h=>by
   rw[bp];rcases List.mem_cons.1 h with e|h
   ·subst e
    rw[if_neg (by rw[h1];decide)]
   ·split
    ·exact eb h1 h2 h3 t k h
    ·rfl
theorem gg:∀(m:Nat) (l:List UInt8) (n:Nat),l.length<=m->fE l=some n->n<=l.length/\bp 0 (l.take n)=true
 | _,[],n,_,h=>by rw[fE] at h;cases h;exact⟨nR _,rfl⟩
 | 0,c :: t,_,hm,_=>by simp at hm
 | m+1,c :: t,n,hm,h=>by
   have ht:t.length<=m:=by simpa using hm
   rw[fE.eq_def] at h;simp only at h;by_cases h37:c=37
   ·rw[if_pos h37] at h
    match t,ht,h with
    | a :: b :: r,ht,h=>
      simp only at h;by_cases hh:rO a=true/\rO b=true
      ·rw[if_pos hh] at h
       cases hr:fE r with
       | none=>rw[hr] at h;cases h
       | some q=>
         rw[hr] at h;cases h
         have:=gg m r q (by simp at ht;omega) hr;refine⟨by simp only[t4];omega,?_⟩;show bp 0 (c :: a :: b :: r.take q)=true;rw[bp,if_pos h37,bp,if_pos hh.1,bp,if_pos hh.2];exact this.2
      ·rw[if_neg hh] at h;cases h
    | [],_,h=>cases h
    | [_],_,h=>cases h
   ·rw[if_neg h37] at h
    by_cases hp:dJ c=true
    ·rw[if_pos hp] at h
     cases hr:fE t with
     | none=>rw[hr] at h;cases h
     | some q=>
       rw[hr] at h;cases h
       have:=gg m t q ht hr;refine⟨by simp only[t4];omega,?_⟩;show bp 0 (c :: t.take q)=true;rw[bp,if_neg h37,if_pos hp];exact this.2
    ·rw[if_neg hp] at h
     cases h
     exact⟨tX _,rfl⟩
theorem kA:∀(m:Nat) (p q:List UInt8),p.length<=m->bp 0 p=true->(∀c,q.head? = some c->dJ c=false/\c≠37)->fE (p++q)=some p.length
 | _,[],q,_,_,hq=>by
   cases q with
   | nil=>rw[List.append_nil,fE];rfl
   | cons c t=>
     have:=hq c rfl;rw[vm,fE.eq_def];simp only;rw[if_neg this.2,if_neg (by rw[this.1];decide)];rfl
 | 0,c :: t,_,hm,_,_=>by simp at hm
 | m+1,c :: t,q,hm,h,hq=>by
   have ht:t.length<=m:=by simpa using hm
   rw[bp] at h;rw[uS,fE.eq_def];simp only;by_cases h37:c=37
   ·rw[if_pos h37] at h ⊢
    match t,ht,h with
    | [],_,h=>rw[bp] at h;cases h
    | [a],_,h=>
      rw[bp] at h;split at h
      ·rw[bp] at h;cases h
      ·cases h
    | a :: b :: r,ht,h=>
      rw[bp] at h;split at h
      ·rename_i ha
       rw[bp] at h;split at h
       ·rename_i hb
        have:=kA m r q (by simp at ht;omega) h hq;simp only[uS];rw[if_pos ⟨ha,hb⟩,this];rfl
       ·cases h
      ·cases h
   ·rw[if_neg h37] at h ⊢
    split at h
    ·rename_i hp
     rw[if_pos hp,kA m t q ht h hq];rfl
    ·cases h
theorem eK {α:Type} {f:α->Bool}:∀(p q:List α),(∀b∈p,f b=true)->(∀c,q.head? = some c->f c=false)->(p++q).takeWhile f=p
 | [],q,_,hq=>by
   cases q with
   | nil=>rfl
   | cons c t=>rw[vm,u0,hq c rfl];rfl
 | b :: p,q,hp,hq=>by
   rw[uS,u0,hp b (by simp),if_pos rfl,eK p q (fun x hx=>hp x (by simp[hx])) hq]
theorem lv {l:List UInt8} {a:UInt8} (h:l.getLast? = some a):l.dropLast++[a]=l:=by
 rcases List.eq_nil_or_concat l with rfl|⟨p,b,rfl⟩
 ·cases h
 ·rw[List.concat_eq_append] at h ⊢
  have:b=a:=by simpa using h
  rw[List.dropLast_concat,this]
theorem nL {l:List UInt8} (h:eP l=true):∃t,l=91 :: (t++[93])/\t≠[]/\∀b∈t,fX b=true:=by
 cases l with
 | nil=>cases h
 | cons c t=>
   unfold eP at h;simp only[ux,uB,Bool.not_eq_true',List.all_eq_true] at h;obtain⟨rfl,h1,h2,h3⟩:=h;refine⟨t.dropLast,?_,?_,h3⟩
   ·rw[lv h1]
   ·intro e
    rw[e] at h2;exact absurd h2 (by decide)
theorem si {t:List UInt8} (h1:t≠[]) (h2:∀b∈t,fX b=true):eP (91 :: (t++[93]))=true:=by
 unfold eP;simp only[ux,uB,Bool.not_eq_true',List.all_eq_true];refine⟨trivial,by simp,?_,?_⟩
 ·rw[List.dropLast_concat]
  cases t with
  | nil=>exact absurd rfl h1
  | cons _ _=>rfl
 ·rw[List.dropLast_concat]
  exact h2
theorem iF {l:List UInt8} {n:Nat} (h:aM l=n) (h0:n≠0):n<=l.length/\(eU (l.take n)||eP (l.take n))=true:=by
 cases l with
 | nil=>exact absurd h.symm h0
 | cons c t=>
   unfold aM at h;simp only at h;by_cases h91:c=91
   ·rw[if_pos h91] at h
    split at h
    ·exact absurd h.symm h0
    rename_i hl0;split at h
    ·rename_i hl1
     subst h
     have hlt:je t<t.length:=by
      rcases uG (je t) t.length with hh|hh
      ·exact hh
      ·rw[uH hh] at hl1;cases hl1
     refine⟨by simp only[t4];omega,?_⟩;rw[uM];right
     have e:(c :: t).take (je t+2)=91 :: (t.takeWhile fX++[93]):=by
      rw[h91,uy,List.take_add_one,hl1];congr 2
      unfold je;exact(List.prefix_iff_eq_take.1 (List.takeWhile_prefix _)).symm
     rw[e];refine si (fun e=>hl0 (by unfold je;rw[e];rfl)) (fun b hb=>?_);have:=List.all_takeWhile (p:=fX) (l:=t);rw[List.all_eq_true] at this;exact this b hb
    ·exact absurd h.symm h0
   ·rw[if_neg h91] at h
    cases hr:fE (c :: t) with
    | none=>rw[hr] at h;exact absurd h.symm h0
    | some q=>
      rw[hr] at h;have hq:q=n:=h;subst hq;have:=gg _ _ _ (nR _) hr;refine⟨this.1,?_⟩;rw[uM];left
      unfold eU;rw[this.2,Bool.and_true];cases hq:q with
      | zero=>exact absurd hq h0
      | succ _=>rfl
theorem lA {p q:List UInt8} (h:(eU p||eP p)=true) (hq:∀c,q.head? = some c->c=58):aM (p++q)=p.length/\p.length≠0:=by
 rw[uM] at h;rcases h with h|h
 ·unfold eU at h
  rw[ux] at h;cases p with
  | nil=>exact absurd h.1 (by decide)
  | cons c t=>
    have h91:c≠91:=by
     rintro rfl;have:=eb (c:=91) (by decide) (by decide) (by decide) (91 :: t) 0 (by simp);rw[this] at h;exact absurd h.2 (by decide)
    refine⟨?_,by simp⟩;show (if c=91 then _ else (fE ((c :: t)++q)).getD 0)=_;rw[if_neg h91,kA _ (c :: t) q (nR _) h.2 (fun d hd=>by rw[hq d hd];exact⟨by decide,by decide⟩)];rfl
 ·obtain⟨t,rfl,h1,h2⟩:=nL h
  refine⟨?_,by simp⟩
  have e:je (t++[93]++q)=t.length:=by
   unfold je;rw[uR,eK t ([93]++q) h2 (fun c hc=>by cases hc;decide)]
  show aM (91 :: (t++[93]++q))=_;unfold aM;simp only;rw[if_pos trivial,e,if_neg (fun(e:t.length=0)=>h1 (t9 e)),if_pos (by rw[uR,List.getElem?_append_right (nR _),Nat.sub_self];rfl)];simp
theorem iG {l:List UInt8} {c:UInt8} (h:c∈l) (hc:cK 10 c=false) (most:Int):al l 10 most=(0,3):=by
 unfold al
 have h1:l.isEmpty=false:=by cases l with
  | nil=>cases h
  | cons _ _=>rfl
 have h2:l.all (cK 10)=false:=by
  rw[List.all_eq_false];exact⟨c,h,by rw[hc];decide⟩
 rw[h1,h2];rfl
theorem sx {p:List UInt8} (h:eU p=true) {c:UInt8} (h1:rO c=false) (h2:dJ c=false) (h3:c≠37):c∉p:=by
 intro hc;unfold eU at h;rw[eb h1 h2 h3 p 0 hc,Bool.and_false] at h;cases h
theorem qR (l:List UInt8) (I J:Int) (hI:(I=-1/\∀k:Nat,l[k]?≠some 58)\/∃i:Nat,I=i/\l[i]? = some 58/\∀k:Nat,i<k->l[k]?≠some 58)
 (hJ:(J=-1/\∀k:Nat,l[k]?≠some 93)\/∃j:Nat,J=j/\l[j]? = some 93/\∀k:Nat,k<j->l[k]?≠some 93):d4 l I J=fw l:=by
 unfold d4 fw;cases he:l.isEmpty
 rotate_left
 ·rfl
 simp only[uP,if_false];by_cases hno:I<J\/I<0
 ·rw[if_pos hno]
  by_cases hn:(eU l||eP l)=true
  ·rw[if_pos hn]
   have:=lA (q:=[]) hn (fun c hc=>by cases hc);rw[List.append_nil] at this;rw[if_neg (by rw[this.1];exact this.2),if_pos this.1]
  ·rw[if_neg hn]
   by_cases h0:aM l=0
   ·rw[if_pos h0]
   rw[if_neg h0];obtain⟨hle,hok⟩:=iF rfl h0;by_cases hlen:aM l=l.length
   ·rw[hlen,uW] at hok
    exact absurd hok hn
   rw[if_neg hlen];by_cases h58:l[aM l]? = some 58
   ·rw[if_neg (by rw[h58];simp)]
    rcases hI with ⟨_,hI⟩|⟨i,rfl,hi,hI⟩
    ·exact absurd h58 (hI _)
    have hni:aM l<=i:=by
     rcases uG i (aM l) with h|h
     ·exact absurd h58 (hI _ h)
     ·exact h
    rcases hJ with ⟨rfl,_⟩|⟨j,rfl,hj,hJ⟩
    ·omega
    have hij:i<j:=by omega
    have hbad:(93:UInt8)∈l.drop (aM l+1):=by
     rw[vi];exact⟨j - (aM l+1),by rw[uX,show aM l+1+(j - (aM l+1))=j by omega];exact hj⟩
    rw[iG hbad (by decide)];rfl
   ·rw[if_pos h58]
 ·rw[if_neg hno]
  rcases hI with ⟨rfl,_⟩|⟨i,rfl,hi,hI⟩
  ·omega
  have hil:i<l.length:=by
   rcases uG i l.length with h|h
   ·exact h
   ·rw[uH h] at hi;cases hi
  rw[uc];have hsp:l=l.take i++l.drop i:=(vc i l).symm;have hhd:(l.drop i).head? = some 58:=by rw[List.head?_drop];exact hi
  by_cases hn:(eU (l.take i)||eP (l.take i))=true
  ·rw[if_pos hn]
   have:=lA (q:=l.drop i) hn (fun c hc=>by rw[hhd] at hc;exact(ve hc).symm);rw[<-hsp,List.length_take,Nat.min_eq_left (by omega)] at this;rw[this.1,if_neg this.2,if_neg (by omega:¬i=l.length),if_neg (show ¬(l[i]?≠some 58) by rw[hi];simp)]
  ·rw[if_neg hn]
   by_cases h0:aM l=0
   ·rw[if_pos h0]
   rw[if_neg h0];obtain⟨hle,hok⟩:=iF rfl h0;by_cases hlen:aM l=l.length
   ·exfalso
    rw[hlen,uW,uM] at hok;rcases hok with h|h
    ·exact sx h (c:=58) (by decide) (by decide) (by decide) (vi.2 ⟨i,hi⟩)
    ·obtain⟨t,rfl,h1,h2⟩:=nL h
     have hlast:(91 :: (t++[93]))[t.length+1]? = some (93:UInt8):=by simp
     have hne:i≠t.length+1:=by
      rintro rfl;rw[hlast] at hi;exact absurd (ve hi) (by decide)
     have hit:i<t.length+1:=by simp at hil;omega
     rcases hJ with ⟨rfl,hJ⟩|⟨j,rfl,hj,hJ⟩
     ·exact hJ _ hlast
     have hij:j<=i:=by omega
     cases j with
     | zero=>simp at hj
     | succ j=>
       rw[uO,List.getElem?_append_left (by omega)] at hj;have:=h2 93 (vi.2 ⟨j,hj⟩);exact absurd this (by decide)
   rw[if_neg hlen];by_cases h58:l[aM l]? = some 58
   ·rw[if_neg (by rw[h58];simp)]
    have hni:aM l<=i:=by
     rcases uG i (aM l) with h|h
     ·exact absurd h58 (hI _ h)
     ·exact h
    rcases uG (aM l) i with hlt|hge
    ·have hbad:(58:UInt8)∈l.drop (aM l+1):=by
      rw[vi];exact⟨i - (aM l+1),by rw[uX,show aM l+1+(i - (aM l+1))=i by omega];exact hi⟩
     rw[iG hbad (by decide)];rfl
    ·have:aM l=i:=by omega
     rw[this] at hok;exact absurd hok hn
   ·rw[if_pos h58]
end Go.Proofs.YthjbodpeckebiaaGreatDoor
/- Texts packed for one claim, 40 of 48: HostV. -/
import Derived.Test.YthjbodpeckebiaaGreatDoorRdnQ25
import Derived.Test.YthjbodpeckebiaaGreatDoorRdnQ26
import Derived.OwnWalk
set_option maxRecDepth 100000
set_option maxHeartbeats 16000000
set_option linter.unusedSimpArgs false
set_option linter.unusedVariables false
-- HostV
namespace Go.Proofs.YthjbodpeckebiaaGreatDoor
open Go.RowKit
theorem pJ (c:UInt8) (t:List UInt8):bp 0 (c :: t)=if c=37 then bp 2 t else if dJ c=true then bp 0 t else false:=by rw[bp]
theorem pI (k:Nat) (c:UInt8) (t:List UInt8):bp (k+1) (c :: t)=if rO c=true then bp k t else false:=by rw[bp]
theorem rm (k:Nat):bp k []=(k==0):=by rw[bp]
theorem ec (s:ByteArray) (hs:s.size<=1000000) (w:World):Calls Tryz.prog 143 #[.string s] w fun e w'=>e=.returned (.bool (eU s.data.toList))/\Below w.heap.size w w':=by
 obtain⟨R,hR⟩:∃R,R=bp 0 s.data.toList:=⟨_,rfl⟩;have hP:eU s.data.toList=(!s.data.toList.isEmpty&&R):=by unfold eU;rw[hR]
 have HP:=lH hP;have HR:=lH hR;have hie:=af s;obtain⟨E,hE⟩:∃E,E=s.toList.isEmpty:=⟨_,rfl⟩;have he:s.toList.isEmpty=E:=hE.symm;rw[<-hie,he] at HP;clear hR hP hie hE;go_enter Tryz.func143,Tryz.ntmps143
 go_wp2_with fail
 go_loopw [3] (fun u3 wr=>∃(k L:Nat),u3=.int .i64 (L:Int)/\L<=2/\k<=s.size/\wr.heap[w.heap.size]? = some (.stringIter s k)/\Below w.heap.size w wr/\bp L (s.data.toList.drop k)=R) (fun _ wr=>s.size - wr.iterPos w.heap.size)
 case atStart=>exact⟨0,0,rfl,by omega,by omega,World.iter_heap w s 0,(tU _ _).alloc (nR _) _,HR.out.symm⟩
 case round=>
  obtain⟨k,L,rfl,hL,hp,hit,hbw,hrg⟩:=hrel;have HIT:=lH hit;have HBW:=lH hbw;have HRG:=lH hrg;have hsz:w.heap.size<wr.heap.size:=(ua.1 hit).1;clear hit hbw hrg;by_cases hlt:k<s.size
  ·obtain⟨r,wd,hr,hwd,hr0,hr1,hwd1,hq⟩:=kE s k hlt
   have hnx:∀ty,(Instr.next (.pointer (some ⟨w.heap.size,0,none⟩)) true ty).run Tryz.prog wr=.ok (.tuple #[.bool true,.int .i64 k,.int .i32 r]) (wr.iterAt w.heap.size s (k+wd)):=fun ty=>by
    rw[vq wr w.heap.size s k ty HIT.out hlt,hr,hwd]
   have HIT2:=lH (Lib.iterAt_heap wr w.heap.size s k (k+wd) HIT.out);have HBW2:=lH (vr HBW.out (k:=w.heap.size) (nR _) s (k+wd));obtain⟨c,hc,hdr⟩:=cz s k hlt
   have hgc:s[k]'hlt=c:=by
    rw[cd s k hlt] at hc;exact ut.1 (by omega)
   rw[hgc] at hq;have hrg:=HRG.out;rw[hdr] at hrg;have HX:=lH (fun(W:World)=>nH r hr0 hr1 W);have HPL:=lH (fun(W:World)=>pz r hr0 hr1 W);obtain⟨hx,hhx⟩:∃b,b=bW r:=⟨_,rfl⟩;obtain⟨pl,hpl⟩:∃b,b=aE r:=⟨_,rfl⟩;rw[<-hhx] at HX;rw[<-hpl] at HPL
   -- what the octet says is what the rune says
   have hxc:rO c=hx:=by
    rw[hhx];rcases hq with ⟨h1,_,_⟩|⟨h1,h2⟩
    ·unfold rO;rw[h1]
    ·rw[di r h1];exact di _ (by omega)
   have hpc:dJ c=pl:=by
    rw[hpl];rcases hq with ⟨h1,_,_⟩|⟨h1,h2⟩
    ·unfold dJ;rw[h1]
    ·rw[ey r h1];exact ey _ (by omega)
   have h37:(c=37)=(r=37):=by
    rcases hq with ⟨h1,_,_⟩|⟨h1,h2⟩
    ·rw[h1]
     apply propext;constructor
     ·rintro rfl;rfl
     ·intro h;exact ut.1 (by
      have:(37:UInt8).toNat=37:=rfl
      omega)
    ·apply propext
     constructor
     ·rintro rfl
      have:(37:UInt8).toNat=37:=rfl;omega
     ·intro h;omega
   have hw1:(hx=true\/pl=true\/r=37)->wd=1:=by
    rcases hq with ⟨_,h1,_⟩|⟨h1,_⟩
    ·exact fun _=>h1
    ·rintro (h|h|h)
     ·rw[hhx,di r h1] at h;cases h
     ·rw[hpl,ey r h1] at h;cases h
     ·omega
   have HW1:=lH hw1;have HWD:=lH hwd1;cases L with
   | succ m=>
     rw[pI,hxc] at hrg;have HRG2:=lH hrg;have hm1:(m:Int)<=1:=by omega
     have hpos:decide ((0:Int)<((m+1:Nat):Int))=true:=dT (by omega);clear hr hwd hq hc hdr hgc hrg hhx hpl hxc hpc h37 hw1;cases hx with
     | true=>
       obtain rfl:=HW1.out (Or.inl rfl);go_wp2_with (go_at_call 180;refine(HX.out _).mono ?_;rintro e1 w1 ⟨rfl,h1⟩;subst h1)
       go_roundw
       case rel=>exact⟨k+1,m,by go_num,by omega,by omega,HIT2.out,HBW2.out,HRG2.out⟩
       case measure=>
        simp only[World.iterPos,HIT2.out,HIT.out];omega
     | false=>
       have HRF:Hid (R=false):=HRG2.out.symm;go_wp2_with (go_at_call 180;refine(HX.out _).mono ?_;rintro e1 w1 ⟨rfl,h1⟩;subst h1)
       go_ret;rw[HP.out,HRF.out,Bool.and_false];exact⟨rfl,HBW2.out⟩
   | zero=>
     rw[pJ,hpc] at hrg;simp only[h37] at hrg;have HRG2:=lH hrg;clear hr hwd hq hc hdr hgc hrg hhx hpl hxc hpc h37 hw1;by_cases h37:r=37
     ·have HR3:Hid (bp 2 (s.data.toList.drop (k+1))=R):=by
       have h:=HRG2.out;rw[if_pos h37] at h;exact h
      obtain rfl:=HW1.out (Or.inr (Or.inr h37));subst h37;go_wp2_with fail
      go_roundw
      case rel=>exact⟨k+1,2,rfl,by omega,by omega,HIT2.out,HBW2.out,HR3.out⟩
      case measure=>
       simp only[World.iterPos,HIT2.out,HIT.out];omega
     ·have n37:(r==37)=false:=by rw[tT];exact h37
      have HR3:Hid ((if pl=true then bp 0 (s.data.toList.drop (k+1)) else false)=R):=by
       have h:=HRG2.out;rw[if_neg h37] at h;exact h
      clear h37;cases pl with
      | true=>
        obtain rfl:=HW1.out (Or.inr (Or.inl rfl));go_wp2_with (go_at_call 181;refine(HPL.out _).mono ?_;rintro e1 w1 ⟨rfl,h1⟩;subst h1)
        go_roundw
        case rel=>exact⟨k+1,0,rfl,by omega,by omega,HIT2.out,HBW2.out,HR3.out⟩
        case measure=>
         simp only[World.iterPos,HIT2.out,HIT.out];omega
      | false=>
        have HRF:Hid (R=false):=HR3.out.symm;go_wp2_with (go_at_call 181;refine(HPL.out _).mono ?_;rintro e1 w1 ⟨rfl,h1⟩;subst h1)
        go_ret;rw[HP.out,HRF.out,Bool.and_false];exact⟨rfl,HBW2.out⟩
  ·have hnx:∀ty,(Instr.next (.pointer (some ⟨w.heap.size,0,none⟩)) true ty).run Tryz.prog wr=_:=fun ty=>vh wr w.heap.size s k ty HIT.out hlt
   have hkn:k=s.size:=by omega
   have HRL:Hid (R=(L==0)):=by
    show R=_;rw[<-HRG.out,hkn,ug (by simp),rm]
   have hli:((L:Int)==0)=(L==0):=by rw[uU,uB,uB];omega
   obtain⟨z,hz⟩:∃z,z=(L==0):=⟨_,rfl⟩;rw[<-hz] at HRL hli;have hz2:(L==0)=z:=hz.symm;clear hkn hz;cases E
   all_goals
    go_wp2_with fail
    go_ret;rw[HP.out,HRL.out];exact⟨rfl,HBW.out⟩
theorem j5 (c:UInt8) (t:List UInt8):Lib.trimPrefix (c :: t) [c]=t/\Lib.hasPrefix (c :: t) [c]=true:=by
 have h:Lib.hasPrefix (c :: t) [c]=true:=by simp[Lib.hasPrefix,List.isPrefixOf]
 refine⟨?_,h⟩;unfold Lib.trimPrefix;rw[if_pos h];rfl
theorem lq (l:List UInt8) (c:UInt8):Lib.hasSuffix l [c]=(l.getLast? == some c):=by
 rw[uU,uB];unfold Lib.hasSuffix;rw[List.isSuffixOf_iff_suffix];constructor
 ·rintro ⟨t,rfl⟩
  simp
 ·intro h
  exact⟨l.dropLast,lv h⟩
def mM (ok:Bool) (l:List UInt8):Bool:=ok&&l.all fX
theorem ic {l:List UInt8} {k j:Nat} (hk:k<l.length) (hkj:k<j) (h:fX l[k]=false):(l.take j).all fX=false:=by
 rw[List.all_eq_false];refine⟨l[k],?_,by rw[h];decide⟩;have:(l.take j)[k]? = some l[k]:=by rw[vg,if_pos hkj,tW hk]
 exact List.mem_of_getElem? this
theorem gu (s:ByteArray) (hs:s.size<=1000000) (w:World):Calls Tryz.prog 144 #[.string s] w fun e w'=>e=.returned (.bool (eP s.data.toList))/\Below w.heap.size w w':=by
 have HCP:=lH (Tryz.strings_CutPrefix s ⟨#[91]⟩ w);obtain⟨ok,hok⟩:∃b,b=Lib.hasPrefix s.data.toList [91]:=⟨_,rfl⟩;obtain⟨A,hA⟩:∃A:ByteArray,A=⟨(Lib.trimPrefix s.data.toList [91]).toArray⟩:=⟨_,rfl⟩;have e1:(⟨#[91]⟩:ByteArray).data.toList=[91]:=rfl;rw[e1,<-hok,<-hA] at HCP;have hAd:A.data.toList=Lib.trimPrefix s.data.toList [91]:=by rw[hA]
 have hAs:A.size<=s.size:=by
  rw[Lib.size_eq,Lib.size_eq,hAd];unfold Lib.trimPrefix;split
  ·rw[t7];omega
  ·exact nR _
 have HCS:=lH (Tryz.strings_CutSuffix A ⟨#[93]⟩ w (by omega));obtain⟨en,hen⟩:∃b,b=Lib.hasSuffix A.data.toList [93]:=⟨_,rfl⟩;obtain⟨I,hI⟩:∃A':ByteArray,A'=⟨(Lib.trimSuffix A.data.toList [93]).toArray⟩:=⟨_,rfl⟩;have e2:(⟨#[93]⟩:ByteArray).data.toList=[93]:=rfl;rw[e2,<-hen,<-hI] at HCS;have hId:I.data.toList=Lib.trimSuffix A.data.toList [93]:=by rw[hI]
 have hIs:I.size<=A.size:=by
  rw[Lib.size_eq,Lib.size_eq,hId];unfold Lib.trimSuffix;split
  ·rw[List.length_take];omega
  ·exact nR _
 have hP:eP s.data.toList=(mM ok I.data.toList&&(en&&!I.toList.isEmpty)):=by
  rw[af];unfold mM;cases hl:s.data.toList with
  | nil=>
    rw[hl] at hok;have:ok=false:=hok;rw[this];rfl
  | cons c t=>
    unfold eP;simp only;by_cases hc:c=91
    ·rw[hl,hc] at hok hAd
     rw[(j5 91 t).2] at hok;rw[(j5 91 t).1] at hAd;rw[hAd,lq] at hen;rw[hc,hok,<-hen];cases en with
     | false=>simp
     | true=>
       have h2:I.data.toList=t.dropLast:=by
        rw[hId,hAd];unfold Lib.trimSuffix;rw[lq,<-hen,if_pos rfl];rw[List.dropLast_eq_take];rfl
       rw[h2];simp[Bool.and_comm]
    ·have h0:ok=false:=by
      rw[hok,hl];simp[Lib.hasPrefix,List.isPrefixOf];exact fun h=>hc h.symm
     have h1:(c==91)=false:=by rw[tT];exact hc
     rw[h0,h1];rfl
 have HP:=lH hP;obtain⟨E,hE⟩:∃E,E=I.toList.isEmpty:=⟨_,rfl⟩;have he:I.toList.isEmpty=E:=hE.symm;rw[he] at HP;have hIi:I.size<=1000000:=by omega
 clear hok hA e1 hAd hAs hen hI e2 hId hIs hP hE hs;go_enter Tryz.func144,Tryz.ntmps144
 go_wp2_with (first
  | (go_at_call 182;refine HCP.out.mono ?_;rintro e1 w1 ⟨rfl,h1⟩;subst h1)
  | (go_at_call 183;refine HCS.out.mono ?_;rintro e2 w2 ⟨rfl,h2⟩;subst h2))
 go_loopw [4] (fun u4 wr=>∃(k:Nat) (q:Bool),u4=.bool q/\q=mM ok (I.data.toList.take k)/\wr.heap[w2.heap.size]? = some (.stringIter I k)/\Below w2.heap.size w2 wr) (fun _ wr=>I.size - wr.iterPos w2.heap.size)
 case atStart=>exact⟨0,_,rfl,by unfold mM;simp,World.iter_heap w2 I 0,(tU _ _).alloc (nR _) _⟩
 case round=>
  obtain⟨k,q,rfl,hq,hit,hbw⟩:=hrel;have HIT:=lH hit;have HBW:=lH hbw;have HQ:=lH hq;have hsz:w2.heap.size<wr.heap.size:=(ua.1 hit).1;clear hit hbw hq;by_cases hlt:k<I.size
  ·obtain⟨r,wd,hr,hwd,hr0,hr1,hwd1,hcs⟩:=kE I k hlt
   have hnx:∀ty,(Instr.next (.pointer (some ⟨w2.heap.size,0,none⟩)) true ty).run Tryz.prog wr=.ok (.tuple #[.bool true,.int .i64 k,.int .i32 r]) (wr.iterAt w2.heap.size I (k+wd)):=fun ty=>by
    rw[vq wr w2.heap.size I k ty HIT.out hlt,hr,hwd]
   have HIT2:=lH (Lib.iterAt_heap wr w2.heap.size I k (k+wd) HIT.out);have HBW2:=lH (vr HBW.out (k:=w2.heap.size) (nR _) I (k+wd));have HX:=lH (fun(W:World)=>nH r hr0 hr1 W);obtain⟨hx,hhx⟩:∃b,b=bW r:=⟨_,rfl⟩;rw[<-hhx] at HX
   have hlr:fX (I[k]'hlt)=(hx||(decide (r=58)||decide (r=46))):=by
    have e:sg r=(hx||(decide (r=58)||decide (r=46))):=by
     unfold sg;rw[hhx];congr 1
     rw[uU,uM,tY,tY,tY]
    rw[<-e];rcases hcs with ⟨h1,_,_⟩|⟨h1,h2⟩
    ·unfold fX;rw[h1]
    ·unfold fX sg
     rw[di r h1,di _ (by omega)];rw[dF (by omega),dF (by omega)]
   have hqn:mM ok (I.data.toList.take (k+wd))=(q&&(hx||(decide (r=58)||decide (r=46)))):=by
    rw[HQ.out,<-hlr];unfold mM;cases hlb:fX (I[k]'hlt) with
    | false=>
      rw[ic (l:=I.data.toList) (k:=k) (by simpa using hlt) (by omega) hlb];simp
    | true=>
      rcases hcs with ⟨_,h1,_⟩|⟨h1,h2⟩
      ·rw[h1,gh I k hlt,List.all_append]
       simp[hlb,Bool.and_assoc]
      ·exfalso
       rw[hlr] at hlb;rw[hhx,di r h1,dF (by omega),dF (by omega)] at hlb;cases hlb
   have HQN:=lH hqn;have HWD1:=lH hwd1;obtain⟨d58,hd58⟩:∃b,b=decide (r=58):=⟨_,rfl⟩;obtain⟨d46,hd46⟩:∃b,b=decide (r=46):=⟨_,rfl⟩;rw[<-hd58,<-hd46] at HQN;have b58:(r==58)=d58:=by rw[hd58];rfl
   have b46:(r==46)=d46:=by rw[hd46];rfl
   clear hr hwd hcs hhx hlr hqn hwd1 hd58 hd46;cases q<;>cases hx<;>cases d58
   all_goals
    go_wp2_with (go_at_call 180;refine(HX.out _).mono ?_;rintro e1 w1 ⟨rfl,h1⟩;subst h1)
    go_roundw
    case rel=>exact⟨k+wd,_,rfl,HQN.out.symm,HIT2.out,HBW2.out⟩
    case measure=>
     have h1:=HWD1.out;simp only[World.iterPos,HIT2.out,HIT.out];omega
  ·have hnx:∀ty,(Instr.next (.pointer (some ⟨w2.heap.size,0,none⟩)) true ty).run Tryz.prog wr=_:=fun ty=>vh wr w2.heap.size I k ty HIT.out hlt
   have HQ2:Hid (mM ok I.data.toList=q):=by show _=q;rw[HQ.out,uu (by simp;omega)]
   cases q<;>cases en<;>cases E
   all_goals
    go_wp2_with fail
    go_ret;rw[HP.out,HQ2.out];exact⟨rfl,HBW.out⟩
theorem iB (s:ByteArray) (c:UInt8):(Lib.lastIndexByte s c.toNat=-1/\∀k:Nat,s.data.toList[k]?≠some c)\/∃i:Nat,i<s.size/\Lib.lastIndexByte s c.toNat=i/\s.data.toList[i]? = some c/\∀k:Nat,i<k->s.data.toList[k]?≠some c:=by
 have key:∀j,j<s.size->(((s.data[j]!).toNat:Int)=(c.toNat:Int)↔s.data.toList[j]? = some c):=by
  intro j hj;have h1:j<s.data.size:=hj;rw[getElem!_pos s.data j h1,Array.getElem?_toList,Array.getElem?_eq_getElem h1];constructor
  ·intro h
   rw[ut.1 (by omega:(s.data[j]).toNat=c.toNat)]
  ·intro h
   rw[ve h]
 have out:∀j,¬j<s.size->s.data.toList[j]?≠some c:=by
  intro j hj h
  rw[uH (by
   have:s.data.toList.length=s.size:=rfl
   omega)] at h
  cases h
 rcases Lib.lastIndexByte_spec s (c.toNat:Int) with ⟨h1,h2⟩|⟨i,h0,h1,h2,h3⟩
 ·refine Or.inl ⟨h1,fun k=>?_⟩
  by_cases hk:k<s.size
  ·exact fun h=>h2 k hk ((key k hk).2 h)
  ·exact out k hk
 ·refine Or.inr ⟨i,h0,h1,(key i h0).1 h2,fun k hik=>?_⟩
  by_cases hk:k<s.size
  ·exact fun h=>h3 k hik hk ((key k hk).2 h)
  ·exact out k hk
theorem lj (l:List UInt8) (c:UInt8):(Lib.indexByte l c=-1/\∀k:Nat,l[k]?≠some c)\/∃j:Nat,Lib.indexByte l c=j/\l[j]? = some c/\∀k:Nat,k<j->l[k]?≠some c:=by
 by_cases h:Lib.indexByte l c=-1
 ·exact Or.inl ⟨h,Lib.indexByte_none h⟩
 ·have h0:0<=Lib.indexByte l c:=by
   have:=Lib.indexByte_ge l c;omega
  obtain⟨o,ho⟩:∃o:Nat,Lib.indexByte l c=o:=⟨(Lib.indexByte l c).toNat,by omega⟩;exact Or.inr ⟨o,ho,(Lib.indexByte_some ho).1,(Lib.indexByte_some ho).2⟩
theorem qP (s:ByteArray) (hs:s.size<=1000000) (I J:Int) (hI:Lib.lastIndexByte s 58=I) (hJ:Lib.indexByte s.data.toList 93=J) (w:World):
 Calls Tryz.prog 142 #[.string s] w fun e w'=>e=.returned (if I<J\/I<0 then .tuple #[.string s,.string ⟨#[]⟩,.bool false] else .tuple #[.string (s.extract 0 I.toNat),.string (s.extract (I.toNat+1) s.size),.bool true])/\Below w.heap.size w w':=by
 have h58:((58:UInt8).toNat:Int)=58:=rfl;have hlast:=iB s 58;rw[h58,hI] at hlast;have HL:=lH (Tryz.strings_LastIndexByte s 58 (by omega) w);rw[hI] at HL;have HF:=lH (fun(W:World)=>Tryz.strings_IndexByte s 93 W);have e93:(93:Int).toNat.toUInt8=93:=rfl;rw[e93,hJ] at HF;clear hI hJ h58 e93;by_cases h1:I<J
 ·have h:=Or.inl (b:=I<0) h1
  rw[if_pos h];have d1:decide (I<J)=true:=dT h1;clear h h1 hlast;go_enter Tryz.func142,Tryz.ntmps142
  go_wp2_with (first
   | (go_at_call 179;refine HL.out.mono ?_;rintro e1 w1 ⟨rfl,h1⟩;subst h1)
   | (go_at_call 152;refine(HF.out _).mono ?_;rintro e2 w2 ⟨rfl,h2⟩;subst h2))
  go_ret3
  exact⟨rfl,tU _ _⟩
 ·have d1:decide (I<J)=false:=dF h1
  by_cases h2:I<0
  ·rw[if_pos (Or.inr h2)]
   have d2:decide (I<0)=true:=dT h2;clear h1 h2 hlast;go_enter Tryz.func142,Tryz.ntmps142
   go_wp2_with (first
    | (go_at_call 179;refine HL.out.mono ?_;rintro e1 w1 ⟨rfl,h1⟩;subst h1)
    | (go_at_call 152;refine(HF.out _).mono ?_;rintro e2 w2 ⟨rfl,h2⟩;subst h2))
   go_ret3
   exact⟨rfl,tU _ _⟩
  ·rw[if_neg (fun h=>h.elim h1 h2)]
   have d2:decide (I<0)=false:=dF h2
   obtain⟨i,rfl,hi⟩:∃i:Nat,I=i/\i<s.size:=by
    rcases hlast with ⟨h,_⟩|⟨i,h,h',_⟩
    ·omega
    ·exact⟨i,h',h⟩
   rw[uc];obtain⟨X,hX⟩:∃X,X=s.extract 0 i:=⟨_,rfl⟩;obtain⟨Y,hY⟩:∃Y,Y=s.extract (i+1) s.size:=⟨_,rfl⟩
   have hsl:∀V:World,(Instr.slice 9 (.string s) none (some (.int .i64 (i:Int))) none).run Tryz.prog V=.ok (.string X) V:=fun V=>by
    rw[run_slice_string_h V 9 s Tryz.underlying9 .i64 (i:Int) (by omega) (by omega),uc,hX]
   have hsr:∀V:World,(Instr.slice 9 (.string s) (some (.int .i64 ((i:Int)+1))) none none).run Tryz.prog V=.ok (.string Y) V:=fun V=>by
    rw[uK V 9 s Tryz.underlying9 .i64 ((i:Int)+1) (by omega) (by omega),show ((i:Int)+1).toNat=i+1 by omega,hY]
   have hmod:((i:Int)+1+9223372036854775808) % 18446744073709551616 - 9223372036854775808=(i:Int)+1:=by omega
   rw[<-hX,<-hY];clear h1 h2 hlast hX hY;go_enter Tryz.func142,Tryz.ntmps142
   go_wp2_with (first
    | (go_at_call 179;refine HL.out.mono ?_;rintro e1 w1 ⟨rfl,h1⟩;subst h1)
    | (go_at_call 152;refine(HF.out _).mono ?_;rintro e2 w2 ⟨rfl,h2⟩;subst h2))
   go_quiet (fail)
   go_wp2_with fail
   go_ret3
   exact⟨rfl,aw ⟨_,rfl⟩⟩
theorem oY (s:ByteArray) (hs:s.size<=1000000) (w:World):
 Calls Tryz.prog 111 #[.string s] w fun e w'=>e=.returned (.tuple #[.string (s.extract 0 (fw s.data.toList).1),.int .i64 (fw s.data.toList).2.1,.int .i64 (fw s.data.toList).2.2])/\Below w.heap.size w w':=by
 obtain⟨I,hI⟩:∃I,Lib.lastIndexByte s 58=I:=⟨_,rfl⟩;obtain⟨J,hJ⟩:∃J,Lib.indexByte s.data.toList 93=J:=⟨_,rfl⟩;have h58:((58:UInt8).toNat:Int)=58:=rfl;have hlast:=iB s 58;rw[h58,hI] at hlast;have hfirst:=lj s.data.toList 93;rw[hJ] at hfirst
 have hlaw:=qR s.data.toList I J (by
  rcases hlast with h|⟨i,h0,h1,h2,h3⟩
  ·exact Or.inl h
  ·exact Or.inr ⟨i,h1,h2,h3⟩) hfirst
 rw[<-hlaw];have HCT:=lH (qP s hs I J hI hJ w);have hsz:s.data.toList.length=s.size:=rfl
 have hlt:∀i:Nat,I=i->i<s.size:=by
  intro i hi;rcases hlast with ⟨h,_⟩|⟨j,h,h',_⟩
  ·omega
  ·omega
 clear hI hJ h58 hlast hfirst hlaw;have he:=af s;obtain⟨E,hE⟩:∃E,E=s.toList.isEmpty:=⟨_,rfl⟩;have heq:s.toList.isEmpty=E:=hE.symm;rw[heq] at he;have es:∀t:ByteArray,t.extract 0 0=⟨#[]⟩:=fun t=>by apply cL;rw[Lib.extract_data];simp
 cases E with
 | true=>
   have HP:Hid (d4 s.data.toList I J=(0,0,2)):=by show _=_;unfold d4;rw[if_pos he.symm]
   clear he hE HCT;go_enter Tryz.func111,Tryz.ntmps111
   go_wp2_with fail
   go_ret3
   rw[HP.out,es];exact⟨rfl,tU _ _⟩
 | false=>
   have hne:¬(s.data.toList.isEmpty=true):=by rw[<-he];decide
   by_cases hno:I<J\/I<0
   ·rw[if_pos hno] at HCT
    obtain⟨rg,hrg⟩:∃b,b=eU s.data.toList:=⟨_,rfl⟩;obtain⟨li,hli⟩:∃b,b=eP s.data.toList:=⟨_,rfl⟩;have HP:Hid (d4 s.data.toList I J=if (rg||li)=true then (s.size,80,0) else (0,0,3)):=by show _=_;unfold d4;rw[if_neg hne,if_pos hno,hrg,hli];rfl
    have HRG:=lH (fun(W:World)=>ec s hs W);have HLI:=lH (fun(W:World)=>gu s hs W);rw[<-hrg] at HRG;rw[<-hli] at HLI;have HX:Hid (s.extract 0 s.size=s):=by show _=_;exact ByteArray.extract_zero_size
    clear he hE hne hno hrg hli;cases rg<;>cases li
    all_goals
     go_enter Tryz.func111,Tryz.ntmps111
     go_wp2_with (first
      | (go_at_call 142;refine HCT.out.mono ?_;rintro e1 w1 ⟨rfl,h1⟩)
      | (go_at_call 143;refine(HRG.out _).mono ?_;rintro e2 w2 ⟨rfl,h2⟩)
      | (go_at_call 144;refine(HLI.out _).mono ?_;rintro e3 w3 ⟨rfl,h3⟩))
     go_ret3
     rw[HP.out];simp only[Bool.or_false,Bool.or_true,Bool.true_or,uP,if_true,if_false,es,HX.out]
     first
      | exact⟨rfl,h1.trans (h2.mono h1.size) |>.trans (h3.mono (nT h1.size h2.size))⟩
      | exact⟨rfl,h1.trans (h2.mono h1.size)⟩
   ·rw[if_neg hno] at HCT
    obtain⟨i,rfl⟩:∃i:Nat,I=i:=⟨I.toNat,by omega⟩;have hi:=hlt i rfl;rw[uc] at HCT;obtain⟨X,hX⟩:∃X,X=s.extract 0 i:=⟨_,rfl⟩;obtain⟨Y,hY⟩:∃Y,Y=s.extract (i+1) s.size:=⟨_,rfl⟩;have hXd:X.data.toList=s.data.toList.take i:=by rw[hX,Lib.extract_data];simp
    have hYd:Y.data.toList=s.data.toList.drop (i+1):=by rw[hY,ci]
    have hXs:X.size<=1000000:=by rw[hX];simp;omega
    have hYs:Y.size<=9223372036854775807:=by rw[hY];simp;omega
    obtain⟨rg,hrg⟩:∃b,b=eU X.data.toList:=⟨_,rfl⟩;obtain⟨li,hli⟩:∃b,b=eP X.data.toList:=⟨_,rfl⟩;obtain⟨n,e,hne2⟩:∃n e,al Y.data.toList 10 65535=(n,e):=⟨_,_,rfl⟩
    have HP:Hid (d4 s.data.toList i J=if (rg||li)=true then (if e=5 then (0,0,5) else if e≠0 then (0,0,3) else (i,n,0)) else (0,0,3)):=by
     show _=_;unfold d4;rw[if_neg hne,if_neg hno,uc,hrg,hli,hXd,<-hYd,hne2]
    have HRG:=lH (fun(W:World)=>ec X hXs W);have HLI:=lH (fun(W:World)=>gu X hXs W);rw[<-hrg] at HRG;rw[<-hli] at HLI;have HD:=lH (fun(W:World)=>kk Y 65535 hYs (by decide) (by decide) n e hne2 W);rw[<-hX,<-hY] at HCT;have HX:=lH hX;clear he hE hne hno hrg hli hne2 hXd hYd hX hY hlt hi;cases rg<;>cases li
    ·go_enter Tryz.func111,Tryz.ntmps111
     go_wp2_with (first
      | (go_at_call 142;refine HCT.out.mono ?_;rintro e1 w1 ⟨rfl,h1⟩)
      | (go_at_call 143;refine(HRG.out _).mono ?_;rintro e2 w2 ⟨rfl,h2⟩)
      | (go_at_call 144;refine(HLI.out _).mono ?_;rintro e3 w3 ⟨rfl,h3⟩))
     go_ret3
     rw[HP.out,if_neg (by decide),es];exact⟨rfl,h1.trans (h2.mono h1.size) |>.trans (h3.mono (nT h1.size h2.size))⟩
    all_goals
     by_cases e0:e=0
     ·subst e0
      have HV:Hid (d4 s.data.toList i J=(i,n,0)):=by show _=_;rw[HP.out];simp
      clear HP;go_enter Tryz.func111,Tryz.ntmps111
      go_wp2_with (first
       | (go_at_call 142;refine HCT.out.mono ?_;rintro e1 w1 ⟨rfl,h1⟩)
       | (go_at_call 143;refine(HRG.out _).mono ?_;rintro e2 w2 ⟨rfl,h2⟩)
       | (go_at_call 144;refine(HLI.out _).mono ?_;rintro e3 w3 ⟨rfl,h3⟩)
       | (go_at_call 145;refine(HD.out _).mono ?_;rintro e4 w4 ⟨rfl,h4⟩))
      go_ret3
      rw[HV.out,<-HX.out]
      first
       | exact⟨rfl,((h1.trans (h2.mono h1.size)).trans (h3.mono (nT h1.size h2.size))).trans (h4.mono (nT (nT h1.size h2.size) h3.size))⟩
       | exact⟨rfl,(h1.trans (h2.mono h1.size)).trans (h4.mono (nT h1.size h2.size))⟩
     ·by_cases e5:e=5
      ·subst e5
       have HV:Hid (d4 s.data.toList i J=(0,0,5)):=by show _=_;rw[HP.out];simp
       clear HP;go_enter Tryz.func111,Tryz.ntmps111
       go_wp2_with (first
        | (go_at_call 142;refine HCT.out.mono ?_;rintro e1 w1 ⟨rfl,h1⟩)
        | (go_at_call 143;refine(HRG.out _).mono ?_;rintro e2 w2 ⟨rfl,h2⟩)
        | (go_at_call 144;refine(HLI.out _).mono ?_;rintro e3 w3 ⟨rfl,h3⟩)
        | (go_at_call 145;refine(HD.out _).mono ?_;rintro e4 w4 ⟨rfl,h4⟩))
       go_ret3
       rw[HV.out,es]
       first
        | exact⟨rfl,((h1.trans (h2.mono h1.size)).trans (h3.mono (nT h1.size h2.size))).trans (h4.mono (nT (nT h1.size h2.size) h3.size))⟩
        | exact⟨rfl,(h1.trans (h2.mono h1.size)).trans (h4.mono (nT h1.size h2.size))⟩
      ·have b0:(e==0)=false:=by rw[tT];exact e0
       have b5:(e==5)=false:=by rw[tT];exact e5
       have HV:Hid (d4 s.data.toList i J=(0,0,3)):=by show _=_;rw[HP.out];simp[e0,e5]
       clear HP;go_enter Tryz.func111,Tryz.ntmps111
       go_wp2_with (first
        | (go_at_call 142;refine HCT.out.mono ?_;rintro e1 w1 ⟨rfl,h1⟩)
        | (go_at_call 143;refine(HRG.out _).mono ?_;rintro e2 w2 ⟨rfl,h2⟩)
        | (go_at_call 144;refine(HLI.out _).mono ?_;rintro e3 w3 ⟨rfl,h3⟩)
        | (go_at_call 145;refine(HD.out _).mono ?_;rintro e4 w4 ⟨rfl,h4⟩))
       go_ret3
       rw[HV.out,es]
       first
        | exact⟨rfl,((h1.trans (h2.mono h1.size)).trans (h3.mono (nT h1.size h2.size))).trans (h4.mono (nT (nT h1.size h2.size) h3.size))⟩
        | exact⟨rfl,(h1.trans (h2.mono h1.size)).trans (h4.mono (nT h1.size h2.size))⟩
end Go.Proofs.YthjbodpeckebiaaGreatDoor
/- Texts packed for one claim, 41 of 48: Cod. -/
import Derived.Test.YthjbodpeckebiaaGreatDoorRdnQ27
import Derived.Test.YthjbodpeckebiaaGreatDoorRdnQ10
set_option maxRecDepth 100000
set_option maxHeartbeats 16000000
set_option linter.unusedSimpArgs false
set_option linter.unusedVariables false
-- Cod
namespace Go.Proofs.YthjbodpeckebiaaGreatDoor
open Go.RowKit
theorem iM:∀(l:List UInt8) (x:Sc) (a:List UInt8),∀p∈gU x a l,p.length<=a.length+l.length
 | [],x,a,p,hp=>by
   rw[gU] at hp;rw[List.mem_singleton.1 hp];simp
 | c :: l,x,a,p,hp=>by
   rw[gU] at hp;split at hp
   ·rcases List.mem_cons.1 hp with e|h
    ·rw[e];simp
    ·have:=iM l x [] p h
     simp at this ⊢;omega
   ·have:=iM l _ _ p hp
    simp at this ⊢;omega
theorem nk (s:ByteArray):∀e∈(cx s).getD [],e.size<=s.size:=by
 unfold cx;split
 ·intro e he
  have he:e∈bu (gU kG [] s.data.toList):=he;unfold bu at he;obtain⟨h1,_⟩:=List.mem_filter.1 he;obtain⟨p,hp,rfl⟩:=List.mem_map.1 h1;have h2:=iM _ _ _ p hp;have h3:=fK p;show (bU p).toArray.size<=_;simp at h2 ⊢;omega
 ·intro e he
  cases he
theorem ky:∀(l:List UInt8) (x:Sc) (a:List UInt8),(gU x a l).length<=l.length+1
 | [],x,a=>by rw[gU];simp
 | c :: l,x,a=>by
   rw[gU];split
   ·have:=ky l x []
    simp;omega
   ·have:=ky l (x.see c.toNat) (a++[c])
    simp;omega
theorem pV (s:ByteArray):((cx s).getD []).length<=s.size+1:=by
 unfold cx;split
 ·have h1:=jY (gU kG [] s.data.toList)
  have h2:=ky s.data.toList kG [];have hl:s.data.toList.length=s.size:=by simp
  show (bu _).length<=_;omega
 ·exact tX _
theorem rZ (fs:List Fd):fV fs=if aJ fs rE=[] then (false,0) else if (cx (bB (aJ fs rE))).isSome=false then (false,14) else mo ((cx (bB (aJ fs rE))).getD []):=by
 unfold fV;split
 ·rfl
 ·cases cx (bB (aJ fs rE)) with
  | none=>rfl
  | some l=>rw[if_neg (by simp)];exact(sa l).symm
theorem oD (l:List ByteArray) (k:Nat) (h:k<l.length):dB (l.take (k+1))=dB (l.take k)+if iY l[k]=true then 1 else 0:=by
 rw[uj h,gp];congr 1
 unfold dB;cases hw:iY l[k]<;>simp[hw]
theorem nD (l:List ByteArray):dB l<=l.length:=List.length_filter_le _ _
theorem nC (s:ByteArray):(s.toList==oC.toList)=decide (s=oC):=by
 rw[uU,uB,tY];constructor
 ·intro h
  rw[u1,u1] at h;exact cL h
 ·intro h
  rw[h]
theorem kU (fs:List Fd) (f:Value) (w:World) (h:bL w f fs) (hl:fs.length<=100000) (hs:∀g∈fs,g.1.size<=1000000) (hs2:∀g∈fs,g.2.size<=1000000) (hj:(bB (aJ fs rE)).size<=900000):
 Calls Tryz.prog 112 #[f] w fun e w'=>e=.returned (.tuple #[.bool (fV fs).1,.int .i64 (fV fs).2])/\Below w.heap.size w w':=by
 have HCB:=lH (oT fs f rE w h hl hs hs2 (by decide));have hcp:=rZ fs;obtain⟨A,hA⟩:∃A,A=aJ fs rE:=⟨_,rfl⟩;rw[<-hA] at HCB hcp hj;obtain⟨J,hJ⟩:∃J,J=bB A:=⟨_,rfl⟩;rw[<-hJ] at HCB hcp hj;obtain⟨CP,hCP⟩:∃C,C=fV fs:=⟨_,rfl⟩;rw[<-hCP] at hcp ⊢;have HSP:=lH (fun W=>pU J (by omega) W);have hsz:=nk J;have hsl:=pV J;obtain⟨S,hS⟩:∃S,S=cx J:=⟨_,rfl⟩;rw[<-hS] at HSP hcp hsz hsl;obtain⟨l,hll⟩:∃l,l=S.getD []:=⟨_,rfl⟩;rw[<-hll] at HSP hcp hsz hsl;have HSZ:Hid (∀e∈l,e.size<=1000000):=fun e he=>by have:=hsz e he;omega
 have HLL:Hid (l.length<=1000000):=by show _<=_;omega
 have hl0:S.isSome=false->l=[]:=fun h=>by
  cases S with
  | none=>exact hll
  | some _=>cases h
 have hcp2:CP=if A.isEmpty=true then (false,0) else if S.isSome=false then (false,14) else mo l:=by
  rw[hcp];cases A<;>rfl
 obtain⟨so,hso⟩:∃b,b=S.isSome:=⟨_,rfl⟩;rw[<-hso] at HSP hl0 hcp2;have HCP:=lH hcp2;have HL0:=lH hl0;clear h hl hs hs2 hj hcp hcp2 hA hJ hCP hS hll hl0 hso hsz hsl;obtain⟨n,hn⟩:∃n,n=l.length:=⟨_,rfl⟩;have HN:=lH hn;obtain⟨ae,hae⟩:∃b,b=A.isEmpty:=⟨_,rfl⟩;rw[<-hae] at HCB HCP;have HWD:=lH (fun(e:ByteArray) (he:e.size<=1000000) (W:World)=>rK e he W);clear hn hae;unfold rE at HCB;go_enter Tryz.func112,Tryz.ntmps112
 generalize hck:(⟨#[99,104,117,110,107,101,100]⟩:ByteArray)=CK;have HCK:Hid (CK=oC):=hck.symm;clear hck;cases ae with
 | true=>
   have HE:Hid (CP=(false,0)):=by show _=_;rw[HCP.out,if_pos rfl]
   go_wp2_with (go_at_call 146;refine HCB.out.mono ?_;rintro e1 w1 ⟨rfl,hb⟩;have HB:=lH hb;clear hb)
   go_ret2
   rw[HE.out];exact⟨rfl,HB.out⟩
 | false=>
   have HE:Hid (CP=if so=false then (false,14) else mo l):=by show _=_;rw[HCP.out,if_neg (by decide)]
   clear HCP
   go_wp2_with (first
    | (go_at_call 146;refine HCB.out.mono ?_;rintro e1 w1 ⟨rfl,hb⟩;have HB:=lH hb;clear hb)
    | (go_at_call 147;refine(HSP.out _).mono ?_;rintro e2 w2 ⟨v2,rfl,ho2,hb2⟩;obtain⟨p2,c2,rfl⟩:=ho2.shape;rw[<-HN.out] at ho2 ⊢;have HO:=lH ho2;have HB2:=lH (HB.out.trans (hb2.mono HB.out.size));clear ho2 hb2))
   go_loopw [7,8,31] (fun u7 u8 i wr=>∃k:Nat,k<=n/\i=.int .i64 k/\u7=.bool (so&&(l.take k).all jj)/\u8=.int .i64 ((dB (l.take k):Nat):Int)/\Below w2.heap.size w2 wr) (fun _ _ i _=>n - (intOf i).toNat)
   case atStart=>exact⟨0,tX _,rfl,by simp,rfl,tU _ _⟩
   case round=>
    obtain⟨k,hk,rfl,hu7,rfl,hb⟩:=hrel;have HBB:=lH hb;have HOW:=lH (HO.out.call hb);have HBW:Hid (Below w.heap.size w wr):=HB2.out.trans (hb.mono HB2.out.size);obtain⟨b7,hb7⟩:∃b,b=(so&&(l.take k).all jj):=⟨_,rfl⟩;rw[<-hb7] at hu7;subst hu7;have HB7:=lH hb7;obtain⟨m,hm⟩:∃m,m=dB (l.take k):=⟨_,rfl⟩;rw[<-hm];have HM:=lH hm;have hmk:m<=k:=by rw[hm];have:=nD (l.take k);rw[List.length_take] at this;omega
    have hmi:(m:Int)<=1000000:=by have:=HLL.out;have:=HN.out;omega
    clear hb hb7 hm;by_cases hlt:k<n
    ·have hk1:decide ((k:Int)<(n:Int))=true:=dT (by omega)
     have hkl:k<l.length:=by rw[<-HN.out];exact hlt
     obtain⟨pp,cc,hv,hc⟩:=HOW.out.strs;obtain⟨b,off,hp,hce⟩:=hc k hkl;injection hv with e1 e2 e3
     rw[<-e1] at hp;subst hp;obtain⟨x,hx⟩:∃x,x=l[k]:=⟨_,rfl⟩;rw[<-hx] at hce;have HXS:Hid (x.size<=1000000):=HSZ.out x (by rw[hx];exact List.getElem_mem hkl);have HW1:=lH (HWD.out x HXS.out wr);have hwc:iY x=decide ((aF x).1=oC):=rfl;obtain⟨W1,hW1⟩:∃W,W=(aF x).1:=⟨_,rfl⟩;rw[<-hW1] at HW1 hwc;have hcmp:=nC W1;rw[<-hwc,<-HCK.out] at hcmp;obtain⟨wc,hwcc⟩:∃b,b=iY x:=⟨_,rfl⟩;rw[<-hwcc] at hcmp;obtain⟨wo,hwo⟩:∃b,b=jj x:=⟨_,rfl⟩;rw[<-hwo] at HW1;obtain⟨wd,hwd⟩:∃b,b=decide (0<(aF x).2.1):=⟨_,rfl⟩;rw[<-hwd] at HW1;have HT:Hid (dB (l.take (k+1))=m+if wc=true then 1 else 0):=by show _=_;rw[oD l k hkl,<-HM.out,<-hx,hwcc]
     have HA7:Hid ((so&&(l.take (k+1)).all jj)=(b7&&wo)):=by
      show _=_;rw[uj hkl,List.all_append,HB7.out,<-hx,hwo];cases so<;>simp
     have hki:(k:Int)<=1000000:=by have:=HLL.out;omega
     clear hc e1 e2 e3 hx hwc hW1 hwcc hwo hwd;cases b7<;>cases wc
     all_goals
      go_wp2_with (go_at_call 148;refine HW1.out.mono ?_;rintro e6 w6 ⟨rfl,hb6⟩;have HB6:=lH (HBB.out.trans (hb6.mono HBB.out.size));clear hb6)
      go_roundw
      case rel=>exact⟨k+1,hlt,by go_num,by rw[HA7.out];rfl,by rw[HT.out];first|rfl|simp,HB6.out⟩
      case measure=>simp[intOf];omega
    ·have hk1:decide ((k:Int)<(n:Int))=false:=dF (by omega)
     have hkn:k=n:=by omega
     have HTK:Hid (l.take k=l):=by show _=_;rw[hkn,HN.out,uW]
     have HM2:Hid (m=dB l):=by show _=_;rw[HM.out,HTK.out]
     have HB72:Hid (b7=(so&&l.all jj)):=by show _=_;rw[HB7.out,HTK.out]
     clear hkn;by_cases hbad:b7=true/\m=1
     ·obtain⟨rfl,rfl⟩:=hbad
      obtain⟨rfl,hall⟩:so=true/\l.all jj=true:=by
       have h:=HB72.out;cases so
       ·cases h
       ·exact⟨rfl,h.symm⟩
      obtain⟨j,hj⟩:∃j,n=j+1:=⟨n - 1,by
       have h1:=HM2.out;have h2:=nD l;have h3:=HN.out
       omega⟩
      have hjl:j<l.length:=by rw[<-HN.out];omega
      obtain⟨pp,cc,hv,hc⟩:=HOW.out.strs;obtain⟨b,off,hp,hce⟩:=hc j hjl;injection hv with e1 e2 e3
      rw[<-e1] at hp;subst hp;obtain⟨x,hx⟩:∃x,x=l[j]:=⟨_,rfl⟩;rw[<-hx] at hce;have HXS:Hid (x.size<=1000000):=HSZ.out x (by rw[hx];exact List.getElem_mem hjl);have HW1:=lH (HWD.out x HXS.out wr)
      have hlast:l.getLast? = some x:=by
       rw[List.getLast?_eq_getElem?,show l.length - 1=j by have:=HN.out;omega,tW hjl,hx]
      have HQ:Hid (CP=if iY x=false\/0<(aF x).2.1 then (false,14) else if 1<n then (false,15) else (true,0)):=by
       show _=_;rw[HE.out,if_neg (by decide)];unfold mo;rw[if_neg (by rw[hall,<-HM2.out];simp),hlast,HN.out]
      have hwc:iY x=decide ((aF x).1=oC):=rfl;obtain⟨W1,hW1⟩:∃W,W=(aF x).1:=⟨_,rfl⟩;rw[<-hW1] at HW1 hwc;have hcmp:=nC W1;rw[<-hwc,<-HCK.out] at hcmp;obtain⟨wc,hwcc⟩:∃b,b=iY x:=⟨_,rfl⟩;rw[<-hwcc] at hcmp HQ;obtain⟨wo,hwo⟩:∃b,b=jj x:=⟨_,rfl⟩;rw[<-hwo] at HW1;obtain⟨wd,hwd⟩:∃b,b=decide (0<(aF x).2.1):=⟨_,rfl⟩;rw[<-hwd] at HW1
      have HQ2:Hid (CP=if wc=false\/wd=true then (false,14) else if 1<n then (false,15) else (true,0)):=by
       show _=_;rw[HQ.out,hwd];simp only[tY]
      have hji:(j:Int)<=1000000:=by have:=HLL.out;omega
      have hn1:((n:Nat):Int) - 1=(j:Int):=by omega
      have hn2:wrap64 ((n:Int) - 1)=(j:Int):=by rw[hn1];exact uQ (j:Int) ⟨by omega,by omega⟩
      have hjn:(j:Int)<(n:Int):=by omega
      have hj0:(0:Int)<=(j:Int):=by omega
      have hcmp2:(W1.toList != CK.toList)=!wc:=by rw[bne,hcmp]
      have hw1:wrap64 ((j:Int)+1 - 1)=(j:Int):=by rw[show (j:Int)+1 - 1=(j:Int) by omega];exact uQ (j:Int) ⟨by omega,by omega⟩
      clear hc e1 e2 e3 hx hwc hW1 hwcc hwo hwd hlast HQ hall;by_cases hn15:1<n
      ·have d1:decide ((1:Int)<(n:Int))=true:=dT (by omega)
       have d2:decide (1<n)=true:=dT hn15;cases wc<;>cases wd
       all_goals
        go_wp2_with (go_at_call 148;refine HW1.out.mono ?_;rintro e6 w6 ⟨rfl,hb6⟩;have HB6:=lH (HBW.out.trans (hb6.mono HBW.out.size));clear hb6)
        go_ret2
        rw[HQ2.out];simp only[uP,or_false,or_true,true_or,false_or,if_true,if_false,hn15,reduceCtorEq];exact⟨rfl,HB6.out⟩
      ·have d1:decide ((1:Int)<(n:Int))=false:=dF (by omega)
       have d2:decide (1<n)=false:=dF hn15;cases wc<;>cases wd
       all_goals
        go_wp2_with (go_at_call 148;refine HW1.out.mono ?_;rintro e6 w6 ⟨rfl,hb6⟩;have HB6:=lH (HBW.out.trans (hb6.mono HBW.out.size));clear hb6)
        go_ret2
        rw[HQ2.out];simp only[uP,or_false,or_true,true_or,false_or,if_true,if_false,hn15,reduceCtorEq];exact⟨rfl,HB6.out⟩
     ·have HQ:Hid (CP=(false,14)):=by
       show _=_;rw[HE.out];cases hso:so with
       | false=>rw[if_pos rfl]
       | true=>
         rw[if_neg (by decide)];unfold mo;rw[if_pos];rw[hso] at HB72;by_cases h7:b7=true
         ·right
          intro h;exact hbad ⟨h7,by rw[HM2.out];exact h⟩
         ·left
          have h:=HB72.out;cases b7
          ·exact h.symm
          ·exact absurd rfl h7
      cases b7 with
      | false=>
        go_wp2_with fail
        go_ret2
        rw[HQ.out];exact⟨rfl,HBW.out⟩
      | true=>
        have hm1:((m:Int) != 1)=true:=by rw[uI];intro h;exact hbad ⟨rfl,by omega⟩
        have hm2:(m != 1)=true:=by rw[uI];intro h;exact hbad ⟨rfl,h⟩
        have hm3:(m==1)=false:=by rw[tT];intro h;exact hbad ⟨rfl,h⟩
        clear hbad;go_wp2_with fail
        go_ret2
        rw[HQ.out];exact⟨rfl,HBW.out⟩
end Go.Proofs.YthjbodpeckebiaaGreatDoor
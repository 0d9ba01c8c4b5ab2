/- Texts packed for one claim, 40 of 52: Cod RfH. -/
import Derived.Test.YthjbodpeckebiaaGreatDoorMrsQ27
import Derived.Test.YthjbodpeckebiaaGreatDoorMrsQ10
set_option maxRecDepth 100000
set_option maxHeartbeats 16000000
set_option linter.unusedSimpArgs false
set_option linter.unusedVariables false
-- Cod
namespace Go.Proofs.YthjbodpeckebiaaGreatDoor
open Go.RowKit
theorem oY:∀(l:List UInt8) (x:Sc) (a:List UInt8),∀p∈io x a l,p.length<=a.length+l.length
 | [],x,a,p,hp=>by
   rw[io] at hp;rw[Gw.1 hp];simp
 | c :: l,x,a,p,hp=>by
   rw[io] at hp;split at hp
   ·rcases GT.1 hp with e|h
    ·rw[e];simp
    ·have:=oY l x [] p h
     simp at this ⊢;omega
   ·have:=oY l _ _ p hp
    simp at this ⊢;omega
theorem nO (s:ByteArray):∀e∈(cA s).getD [],e.size<=s.size:=by
 unfold cA;split
 ·intro e he
  have he:e∈ci (io ie [] s.data.toList):=he;unfold ci at he;obtain⟨h1,_⟩:=List.mem_filter.1 he;obtain⟨p,hp,rfl⟩:=List.mem_map.1 h1;have h2:=oY _ _ _ p hp;have h3:=iC p;show (cO p).toArray.size<=_;simp at h2 ⊢;omega
 ·intro e he
  cases he
theorem rJ:∀(l:List UInt8) (x:Sc) (a:List UInt8),(io x a l).length<=l.length+1
 | [],x,a=>by rw[io];simp
 | c :: l,x,a=>by
   rw[io];split
   ·have:=rJ l x []
    simp;omega
   ·have:=rJ l (x.see c.toNat) (a++[c])
    simp;omega
theorem qO (s:ByteArray):((cA s).getD []).length<=s.size+1:=by
 unfold cA;split
 ·have h1:=lB (io ie [] s.data.toList)
  have h2:=rJ s.data.toList ie [];have hl:s.data.toList.length=s.size:=by simp
  show (ci _).length<=_;omega
 ·exact EN _
theorem CU (fs:List Fd):fy fs=if ay fs mR=[] then (false,0) else if (cA (bu (ay fs mR))).isSome=false then (false,14) else uC ((cA (bu (ay fs mR))).getD []):=by
 unfold fy;split
 ·rfl
 ·cases cA (bu (ay fs mR)) with
  | none=>rfl
  | some l=>rw[if_neg (by simp)];exact(CQ l).symm
theorem ya (l:List ByteArray) (k:Nat) (h:k<l.length):iz (l.take (k+1))=iz (l.take k)+if mN l[k]=true then 1 else 0:=by
 rw[E8 h,mn];congr 1
 unfold iz;cases hw:mN l[k]<;>simp[hw]
theorem wP (l:List ByteArray):iz l<=l.length:=List.length_filter_le _ _
theorem wY (s:ByteArray):(s.toList==we.toList)=decide (s=we):=by
 rw[F6,FA,EO];constructor
 ·intro h
  rw[Gj,Gj] at h;exact bj h
 ·intro h
  rw[h]
theorem su (fs:List Fd) (f:Value) (w:World) (h:cu w f fs) (hl:fs.length<=100000) (hs:∀g∈fs,g.1.size<=1000000) (hs2:∀g∈fs,g.2.size<=1000000) (hj:(bu (ay fs mR)).size<=900000):
 Calls Tryz.prog 112 #[f] w fun e w'=>e=.returned (.tuple #[.bool (fy fs).1,.int .i64 (fy fs).2])/\Below w.heap.size w w':=by
 have HCB:=lH (xw fs f mR w h hl hs hs2 (by decide));have hcp:=CU fs;obtain⟨A,hA⟩:∃A,A=ay fs mR:=⟨_,rfl⟩;rw[<-hA] at HCB hcp hj;obtain⟨J,hJ⟩:∃J,J=bu A:=⟨_,rfl⟩;rw[<-hJ] at HCB hcp hj;obtain⟨CP,hCP⟩:∃C,C=fy fs:=⟨_,rfl⟩;rw[<-hCP] at hcp ⊢;have HSP:=lH (fun W=>yD J (by omega) W);have hsz:=nO J;have hsl:=qO J;obtain⟨S,hS⟩:∃S,S=cA J:=⟨_,rfl⟩;rw[<-hS] at HSP hcp hsz hsl;obtain⟨l,hll⟩:∃l,l=S.getD []:=⟨_,rfl⟩;rw[<-hll] at HSP hcp hsz hsl;have HSZ:Hid (∀e∈l,e.size<=1000000):=fun e he=>by have:=hsz e he;omega
 have HLL:Hid (l.length<=1000000):=by show _<=_;omega
 have hl0:S.isSome=false->l=[]:=fun h=>by
  cases S with
  | none=>exact hll
  | some _=>cases h
 have hcp2:CP=if A.isEmpty=true then (false,0) else if S.isSome=false then (false,14) else uC l:=by
  rw[hcp];cases A<;>rfl
 obtain⟨so,hso⟩:∃b,b=S.isSome:=⟨_,rfl⟩;rw[<-hso] at HSP hl0 hcp2;have HCP:=lH hcp2;have HL0:=lH hl0;clear h hl hs hs2 hj hcp hcp2 hA hJ hCP hS hll hl0 hso hsz hsl;obtain⟨n,hn⟩:∃n,n=l.length:=⟨_,rfl⟩;have HN:=lH hn;obtain⟨ae,hae⟩:∃b,b=A.isEmpty:=⟨_,rfl⟩;rw[<-hae] at HCB HCP;have HWD:=lH (fun(e:ByteArray) (he:e.size<=1000000) (W:World)=>Bn e he W);clear hn hae;unfold mR at HCB;go_enter Tryz.func112,Tryz.ntmps112
 generalize hck:(⟨#[99,104,117,110,107,101,100]⟩:ByteArray)=CK;have HCK:Hid (CK=we):=hck.symm;clear hck;cases ae with
 | true=>
   have HE:Hid (CP=(false,0)):=by show _=_;rw[HCP.out,if_pos rfl]
   go_wp2_with (go_at_call 146;refine HCB.out.mono ?_;rintro e1 w1 ⟨rfl,hb⟩;have HB:=lH hb;clear hb)
   go_ret2
   rw[HE.out];exact⟨rfl,HB.out⟩
 | false=>
   have HE:Hid (CP=if so=false then (false,14) else uC l):=by show _=_;rw[HCP.out,if_neg (by decide)]
   clear HCP
   go_wp2_with (first
    | (go_at_call 146;refine HCB.out.mono ?_;rintro e1 w1 ⟨rfl,hb⟩;have HB:=lH hb;clear hb)
    | (go_at_call 147;refine(HSP.out _).mono ?_;rintro e2 w2 ⟨v2,rfl,ho2,hb2⟩;obtain⟨p2,c2,rfl⟩:=ho2.shape;rw[<-HN.out] at ho2 ⊢;have HO:=lH ho2;have HB2:=lH (HB.out.trans (hb2.mono HB.out.size));clear ho2 hb2))
   go_loopw [7,8,31] (fun u7 u8 i wr=>∃k:Nat,k<=n/\i=.int .i64 k/\u7=.bool (so&&(l.take k).all pB)/\u8=.int .i64 ((iz (l.take k):Nat):Int)/\Below w2.heap.size w2 wr) (fun _ _ i _=>n - (intOf i).toNat)
   case atStart=>exact⟨0,EN _,rfl,by simp,rfl,EK _ _⟩
   case round=>
    obtain⟨k,hk,rfl,hu7,rfl,hb⟩:=hrel;have HBB:=lH hb;have HOW:=lH (HO.out.call hb);have HBW:Hid (Below w.heap.size w wr):=HB2.out.trans (hb.mono HB2.out.size);obtain⟨b7,hb7⟩:∃b,b=(so&&(l.take k).all pB):=⟨_,rfl⟩;rw[<-hb7] at hu7;subst hu7;have HB7:=lH hb7;obtain⟨m,hm⟩:∃m,m=iz (l.take k):=⟨_,rfl⟩;rw[<-hm];have HM:=lH hm;have hmk:m<=k:=by rw[hm];have:=wP (l.take k);rw[Ge] at this;omega
    have hmi:(m:Int)<=1000000:=by have:=HLL.out;have:=HN.out;omega
    clear hb hb7 hm;by_cases hlt:k<n
    ·have hk1:decide ((k:Int)<(n:Int))=true:=dT (by omega)
     have hkl:k<l.length:=by rw[<-HN.out];exact hlt
     obtain⟨pp,cc,hv,hc⟩:=HOW.out.strs;obtain⟨b,off,hp,hce⟩:=hc k hkl;injection hv with e1 e2 e3
     rw[<-e1] at hp;subst hp;obtain⟨x,hx⟩:∃x,x=l[k]:=⟨_,rfl⟩;rw[<-hx] at hce;have HXS:Hid (x.size<=1000000):=HSZ.out x (by rw[hx];exact FT hkl);have HW1:=lH (HWD.out x HXS.out wr);have hwc:mN x=decide ((aW x).1=we):=rfl;obtain⟨W1,hW1⟩:∃W,W=(aW x).1:=⟨_,rfl⟩;rw[<-hW1] at HW1 hwc;have hcmp:=wY W1;rw[<-hwc,<-HCK.out] at hcmp;obtain⟨wc,hwcc⟩:∃b,b=mN x:=⟨_,rfl⟩;rw[<-hwcc] at hcmp;obtain⟨wo,hwo⟩:∃b,b=pB x:=⟨_,rfl⟩;rw[<-hwo] at HW1;obtain⟨wd,hwd⟩:∃b,b=decide (0<(aW x).2.1):=⟨_,rfl⟩;rw[<-hwd] at HW1;have HT:Hid (iz (l.take (k+1))=m+if wc=true then 1 else 0):=by show _=_;rw[ya l k hkl,<-HM.out,<-hx,hwcc]
     have HA7:Hid ((so&&(l.take (k+1)).all pB)=(b7&&wo)):=by
      show _=_;rw[E8 hkl,List.all_append,HB7.out,<-hx,hwo];cases so<;>simp
     have hki:(k:Int)<=1000000:=by have:=HLL.out;omega
     clear hc e1 e2 e3 hx hwc hW1 hwcc hwo hwd;cases b7<;>cases wc
     all_goals
      go_wp2_with (go_at_call 148;refine HW1.out.mono ?_;rintro e6 w6 ⟨rfl,hb6⟩;have HB6:=lH (HBB.out.trans (hb6.mono HBB.out.size));clear hb6)
      go_roundw
      case rel=>exact⟨k+1,hlt,by go_num,by rw[HA7.out];rfl,by rw[HT.out];first|rfl|simp,HB6.out⟩
      case measure=>simp[intOf];omega
    ·have hk1:decide ((k:Int)<(n:Int))=false:=dF (by omega)
     have hkn:k=n:=by omega
     have HTK:Hid (l.take k=l):=by show _=_;rw[hkn,HN.out,F8]
     have HM2:Hid (m=iz l):=by show _=_;rw[HM.out,HTK.out]
     have HB72:Hid (b7=(so&&l.all pB)):=by show _=_;rw[HB7.out,HTK.out]
     clear hkn;by_cases hbad:b7=true/\m=1
     ·obtain⟨rfl,rfl⟩:=hbad
      obtain⟨rfl,hall⟩:so=true/\l.all pB=true:=by
       have h:=HB72.out;cases so
       ·cases h
       ·exact⟨rfl,h.symm⟩
      obtain⟨j,hj⟩:∃j,n=j+1:=⟨n - 1,by
       have h1:=HM2.out;have h2:=wP l;have h3:=HN.out
       omega⟩
      have hjl:j<l.length:=by rw[<-HN.out];omega
      obtain⟨pp,cc,hv,hc⟩:=HOW.out.strs;obtain⟨b,off,hp,hce⟩:=hc j hjl;injection hv with e1 e2 e3
      rw[<-e1] at hp;subst hp;obtain⟨x,hx⟩:∃x,x=l[j]:=⟨_,rfl⟩;rw[<-hx] at hce;have HXS:Hid (x.size<=1000000):=HSZ.out x (by rw[hx];exact FT hjl);have HW1:=lH (HWD.out x HXS.out wr)
      have hlast:l.getLast? = some x:=by
       rw[List.getLast?_eq_getElem?,show l.length - 1=j by have:=HN.out;omega,EM hjl,hx]
      have HQ:Hid (CP=if mN x=false\/0<(aW x).2.1 then (false,14) else if 1<n then (false,15) else (true,0)):=by
       show _=_;rw[HE.out,if_neg (by decide)];unfold uC;rw[if_neg (by rw[hall,<-HM2.out];simp),hlast,HN.out]
      have hwc:mN x=decide ((aW x).1=we):=rfl;obtain⟨W1,hW1⟩:∃W,W=(aW x).1:=⟨_,rfl⟩;rw[<-hW1] at HW1 hwc;have hcmp:=wY W1;rw[<-hwc,<-HCK.out] at hcmp;obtain⟨wc,hwcc⟩:∃b,b=mN x:=⟨_,rfl⟩;rw[<-hwcc] at hcmp HQ;obtain⟨wo,hwo⟩:∃b,b=pB x:=⟨_,rfl⟩;rw[<-hwo] at HW1;obtain⟨wd,hwd⟩:∃b,b=decide (0<(aW x).2.1):=⟨_,rfl⟩;rw[<-hwd] at HW1
      have HQ2:Hid (CP=if wc=false\/wd=true then (false,14) else if 1<n then (false,15) else (true,0)):=by
       show _=_;rw[HQ.out,hwd];simp only[EO]
      have hji:(j:Int)<=1000000:=by have:=HLL.out;omega
      have hn1:((n:Nat):Int) - 1=(j:Int):=by omega
      have hn2:wrap64 ((n:Int) - 1)=(j:Int):=by rw[hn1];exact FY (j:Int) ⟨by omega,by omega⟩
      have hjn:(j:Int)<(n:Int):=by omega
      have hj0:(0:Int)<=(j:Int):=by omega
      have hcmp2:(W1.toList != CK.toList)=!wc:=by rw[bne,hcmp]
      have hw1:wrap64 ((j:Int)+1 - 1)=(j:Int):=by rw[show (j:Int)+1 - 1=(j:Int) by omega];exact FY (j:Int) ⟨by omega,by omega⟩
      clear hc e1 e2 e3 hx hwc hW1 hwcc hwo hwd hlast HQ hall;by_cases hn15:1<n
      ·have d1:decide ((1:Int)<(n:Int))=true:=dT (by omega)
       have d2:decide (1<n)=true:=dT hn15;cases wc<;>cases wd
       all_goals
        go_wp2_with (go_at_call 148;refine HW1.out.mono ?_;rintro e6 w6 ⟨rfl,hb6⟩;have HB6:=lH (HBW.out.trans (hb6.mono HBW.out.size));clear hb6)
        go_ret2
        rw[HQ2.out];simp only[FX,or_false,or_true,true_or,false_or,if_true,if_false,hn15,reduceCtorEq];exact⟨rfl,HB6.out⟩
      ·have d1:decide ((1:Int)<(n:Int))=false:=dF (by omega)
       have d2:decide (1<n)=false:=dF hn15;cases wc<;>cases wd
       all_goals
        go_wp2_with (go_at_call 148;refine HW1.out.mono ?_;rintro e6 w6 ⟨rfl,hb6⟩;have HB6:=lH (HBW.out.trans (hb6.mono HBW.out.size));clear hb6)
        go_ret2
        rw[HQ2.out];simp only[FX,or_false,or_true,true_or,false_or,if_true,if_false,hn15,reduceCtorEq];exact⟨rfl,HB6.out⟩
     ·have HQ:Hid (CP=(false,14)):=by
       show _=_;rw[HE.out];cases hso:so with
       | false=>rw[if_pos rfl]
       | true=>
         rw[if_neg (by decide)];unfold uC;rw[if_pos];rw[hso] at HB72;by_cases h7:b7=true
         ·right
          intro h;exact hbad ⟨h7,by rw[HM2.out];exact h⟩
         ·left
          have h:=HB72.out;cases b7
          ·exact h.symm
          ·exact absurd rfl h7
      cases b7 with
      | false=>
        go_wp2_with fail
        go_ret2
        rw[HQ.out];exact⟨rfl,HBW.out⟩
      | true=>
        have hm1:((m:Int) != 1)=true:=by rw[FP];intro h;exact hbad ⟨rfl,by omega⟩
        have hm2:(m != 1)=true:=by rw[FP];intro h;exact hbad ⟨rfl,h⟩
        have hm3:(m==1)=false:=by rw[EJ];intro h;exact hbad ⟨rfl,h⟩
        clear hbad;go_wp2_with fail
        go_ret2
        rw[HQ.out];exact⟨rfl,HBW.out⟩
end Go.Proofs.YthjbodpeckebiaaGreatDoor
-- RfH
namespace Go.Proofs.YthjbodpeckebiaaGreatDoor
open Go.RowKit
def DD (v:Value):Nat:=match v with
 | .string s=>s.size
 | _=>0
theorem fR.start (w:World) (B:Nat):fR w B (.slice none 0 0) []:=Fv _ _ _ _
theorem fR.empty (w:World):fR (w.alloc (.cells #[] 191)) w.heap.size (.slice (some ⟨w.heap.size,0,none⟩) 0 0) []:=World.ownsRow_lit w #[] 0 (nR _) (by decide) rfl
theorem fR.call {w w1:World} {B:Nat} {v:Value} {l:List Fd} (h:fR w B v l) (hb:Below w.heap.size w w1):fR w1 B v l:=ab h (aa.of_below (P:=fun _=>False) hb) (fun _ _=>id)
theorem fR.alloc {w:World} {B:Nat} {v:Value} {l:List Fd} (h:fR w B v l) (o:Obj):fR (w.alloc o) B v l:=ab h ((aa.refl (fun _=>False) w).alloc o) (fun _ _=>id)
theorem tR {l:List UInt8} (hl:l≠[]) {n:Nat} (h:cV l=some n):cy l=(cy (l.drop n)).map (·+1):=by rw[ku hl,h]
theorem nX {l:List UInt8} (hl:l≠[]) (h:cV l=none):cy l=none:=by rw[ku hl,h]
theorem rY (s:ByteArray) (hs:s.size<=900000) (w:World):
 Calls Tryz.prog 133 #[.string s] w fun e w'=>∃p c,e=.returned (.tuple #[.string (aW s).1,.slice p (aW s).2.1 c,.int .i64 (aW s).2.2])/\Below w.heap.size w w':=by
 have hsl:s.data.toList.length=s.size:=by simp
 obtain⟨V,hV⟩:∃V,V=aW s:=⟨_,rfl⟩;rw[<-hV];unfold aW at hV;cases hE:s.toList.isEmpty with
 | true=>
   have hz:s.size=0:=by
    rw[ah,Gy] at hE;have:=FH List.length hE;simpa using this
   rw[if_pos hz] at hV;have HV:=lH hV;clear hV hsl hz;go_enter Tryz.func133,Tryz.ntmps133
   go_wp2_with fail
   go_ret3
   rw[HV.out];exact⟨_,_,rfl,EK _ _⟩
 | false=>
   have hz:s.size≠0:=by
    intro h;have:s.data.toList=[]:=EU (by omega);rw[ah,this] at hE;cases hE
   rw[if_neg hz] at hV;have HT:=lH (ck s (by omega));have htl:=ep s.data.toList;obtain⟨t,hte⟩:∃t,t=aU s.data.toList:=⟨_,rfl⟩;rw[<-hte] at hV HT htl;rw[hsl] at htl;obtain⟨NM,hNM,hzN,hsl1⟩:=gw s t htl
   have hNMe:NM=s.extract 0 t:=by
    apply bj;rw[hNM,Lib.extract_data,Ff,Nat.sub_zero]
   rw[<-hNMe] at hV;have HLW:=lH (dJ NM (by omega));obtain⟨nm,hnm⟩:∃x,x=br NM:=⟨_,rfl⟩;rw[<-hnm] at hV HLW;by_cases ht0:t=0
   ·rw[if_pos ht0] at hV
    have HV:=lH hV;have e0:((t:Int)==0)=true:=by rw[FA];omega
    clear hV hsl hz hte htl hNM hzN hNMe hnm ht0;go_enter Tryz.func133,Tryz.ntmps133
    go_wp2_with fail
    refine(HT.out _).mono ?_;rintro x1 w1 ⟨rfl,rfl⟩;go_wp2_with fail
    refine(HLW.out _).mono ?_;rintro x2 w2 ⟨rfl,hb⟩;have HB:=lH (hb.alloc hb.size (.cells #[] 191));clear hb;go_wp2_with fail
    go_ret3
    rw[HV.out];exact⟨_,_,rfl,HB.out⟩
   ·rw[if_neg ht0] at hV
    have e0:((t:Int)==0)=false:=by rw[EJ];omega
    obtain⟨S0,hS0,hz0,hsl2⟩:=av s t htl;rw[<-hS0] at hV;obtain⟨R,hR⟩:∃R,R=cy S0.data.toList:=⟨_,rfl⟩;rw[<-hR] at hV;have HVV:=lH hV;have HR0:Hid (R=(cy S0.data.toList).map (·+0)):=by show R=_;rw[hR];simp
    have hs0:S0.size<=900000:=by omega
    clear hV hsl hz hte htl hNM hzN hNMe hnm ht0 hS0 hz0 hR;go_enter Tryz.func133,Tryz.ntmps133
    go_wp2_with fail
    refine(HT.out _).mono ?_;rintro x1 w1 ⟨rfl,rfl⟩;go_wp2_with fail
    refine(HLW.out _).mono ?_;rintro x2 w2 ⟨rfl,hb⟩;have HB:=lH (hb.alloc hb.size (.cells #[] 191));have HO:=lH (fR.empty w2);have HZ2:=lH hb.size;clear hb;go_wp2_with fail
    go_loopw [0,7] (fun u0 u7 wr=>∃(S:ByteArray) (k:Nat) (L:List Fd),u0=.string S/\S.size+k<=900000/\fR wr w2.heap.size u7 L/\L.length=k/\R=(cy S.data.toList).map (·+k)/\Below w.heap.size w wr/\w2.heap.size<=wr.heap.size) (fun u0 _ _=>DD u0)
    case atStart=>exact⟨S0,0,[],rfl,by omega,HO.out,rfl,HR0.out,HB.out,by simp⟩
    case round=>
     obtain⟨S,k,L,rfl,hSk,ho,hL,hr,hb,hz2⟩:=hrel;have HOR:=lH ho;have HBR:=lH hb;have HRR:=lH hr;have HZR:=lH hz2;have HLK:=lH hL;clear ho hb hr hz2 hL;cases hSE:S.toList.isEmpty with
     | true=>
       have hnil:S.data.toList=[]:=by rw[ah,Gy] at hSE;exact hSE
       have HV:Hid (V=(nm,k,0)):=by
        show V=_;have h:=HRR.out;rw[hnil,jp] at h;rw[HVV.out,h];simp
       obtain⟨p7,c7,hv7⟩:=aC HOR.out;rw[HLK.out] at hv7;subst hv7;clear hnil;go_wp2_with fail
       go_ret3
       rw[HV.out];exact⟨_,_,rfl,HBR.out⟩
     | false=>
       have hne:S.data.toList≠[]:=by
        intro e;rw[ah,e] at hSE;cases hSE
       have HPA:=lH (nJ S (by omega) wr);have hlt:k<=1000000:=by omega
       cases hpf:cV S.data.toList with
       | none=>
         have HV:Hid (V=(⟨#[]⟩,0,3)):=by
          show V=_;have h:=HRR.out;rw[nX hne hpf] at h;rw[HVV.out,h];rfl
         have HPA2:Hid (Calls Tryz.prog 162 #[.string S] wr fun e w'=>∃n v r:ByteArray,e=.returned (.tuple #[.agg #[.string n,.string v],.string r,.bool false])/\Below wr.heap.size wr w'):=HPA.out.mono fun e w' ⟨n,v,r,h1,_,h3⟩=>⟨n,v,r,by rw[h1,hpf];rfl,h3⟩;clear hne hpf HPA;go_wp2_with (go_at_call 162;refine HPA2.out.mono ?_)
         rintro x3 w3 ⟨n3,v3,r3,rfl,hb3⟩;have HB3:=lH ((HBR.out.trans (hb3.mono HBR.out.size)).alloc (nT HBR.out.size hb3.size) (.cells #[.string n3,.string v3] 191));clear hb3;go_wp2_with fail
         go_ret3
         rw[HV.out];exact⟨_,_,rfl,HB3.out⟩
       | some n=>
         have hn:=mV hpf;have hSl:S.data.toList.length=S.size:=by simp
         have HPA2:Hid (Calls Tryz.prog 162 #[.string S] wr fun e w'=>∃n' v r:ByteArray,e=.returned (.tuple #[.agg #[.string n',.string v],.string r,.bool true])/\(r.data.toList=S.data.toList.drop n)/\Below wr.heap.size wr w'):=HPA.out.mono fun e w' ⟨n',v,r,h1,h2,h3⟩=>⟨n',v,r,by rw[h1,hpf];rfl,h2 n hpf,h3⟩;have HG:=lH (tR hne hpf);have hn1:=hn.1;have hn2:n<=S.size:=by omega
         clear hne hpf HPA hn hSl;go_wp2_with (go_at_call 162;refine HPA2.out.mono ?_)
         rintro x3 w3 ⟨n3,v3,r3,rfl,hr3,hb3⟩;have HB3:=lH ((HBR.out.trans (hb3.mono HBR.out.size)).alloc (nT HBR.out.size hb3.size) (.cells #[.string n3,.string v3] 191));have HO3:=lH (fR.alloc (fR.call HOR.out hb3) (.cells #[.string n3,.string v3] 191));have HZ3:Hid (w2.heap.size<=(w3.alloc (.cells #[.string n3,.string v3] 191)).heap.size):=by show _<=_;have h1:=HZR.out;have h2:=hb3.size;simp;omega
         have HLL:Hid (L.length<=1000000):=by show _<=_;rw[HLK.out];exact hlt
         have HR3:=lH hr3
         have HRZ:Hid (r3.size=S.size - n):=by
          show _=_;have:=FH List.length hr3;simpa using this
         clear hr3 hb3;go_wp2_with (at_builtin;refine eW rfl _ _ rfl rfl HO3.out n3 v3 _ (by simp) rfl HLL.out HZ3.out ?_;intro p4 c4 w4 ho4 ht4;have HO4:=lH ho4;have HT4:=lH ht4;clear ho4 ht4)
         go_roundw
         case rel=>
          refine⟨r3,k+1,L++[(n3,v3)],rfl,by have:=HRZ.out;omega,?_,by rw[EY,HLK.out];rfl,?_,?_,nT HZ3.out HT4.out.size⟩
          ·have h:=HO4.out
           exact h
          ·have h:=HRR.out
           rw[HG.out,GM] at h;rw[h,HR3.out];congr 1
           funext x
           simp;omega
          ·refine HB3.out.trans (HT4.out.below (fun j hj e=>?_) HB3.out.size)
           have h1:=(gz HO3.out j e).1;have h2:=HZ2.out;omega
         case measure=>
          have h:=HRZ.out;show r3.size<S.size;omega
theorem B5 (last:Bool) (e:ByteArray):jH last e=(((aW e).2.2 != 0)||((last != mN e)||(last&&decide (0<(aW e).2.1)))):=rfl
theorem oC {l:List ByteArray} (h:0<l.length):l.getLast?.getD ⟨#[]⟩=l[l.length - 1]:=by
 rw[List.getLast?_eq_getElem?,EM (by omega)];rfl
theorem oT {l:List ByteArray} {k:Nat} (hk:k<l.length) (h:jH (decide (k+1=l.length)) l[k]=true):pc l=(false,14):=by
 unfold pc;rw[if_neg (fun e=>by rw[e] at hk;exact absurd hk (FS _))];rw[if_pos];rw[FU];by_cases e:k+1=l.length
 ·right
  rw[dT e] at h;rw[oC (by omega)];have e2:l[l.length - 1]'(by omega)=l[k]:=by congr 1;omega
  rw[e2];exact h
 ·left
  rw[dF e] at h;rw[List.any_eq_true];refine⟨l[k],?_,h⟩;rw[GB];exact⟨k,by rw[List.getElem?_dropLast,if_pos (by omega),EM hk]⟩
theorem ze {l:List ByteArray} (h0:0<l.length) (h:∀j (hj:j<l.length),jH (decide (j+1=l.length)) l[j]=false):pc l=if 1<l.length then (false,15) else (true,0):=by
 unfold pc;rw[if_neg (fun e=>by rw[e] at h0;exact absurd h0 (FS _))];rw[if_neg];rw[FU];rintro (hb|hb)
 ·rw[List.any_eq_true] at hb
  obtain⟨x,hx,hbx⟩:=hb;rw[GB] at hx;obtain⟨j,hj⟩:=hx;rw[List.getElem?_dropLast] at hj;split at hj
  ·rename_i hlt
   have hj2:j<l.length:=by omega
   rw[EM hj2] at hj;have h1:=h j hj2;rw[dF (by omega)] at h1;injection hj with hj
   rw[hj] at h1;rw[h1] at hbx;cases hbx
  ·cases hj
 ·rw[oC h0] at hb
  have h1:=h (l.length - 1) (by omega);rw[dT (by omega)] at h1;rw[h1] at hb;cases hb
theorem se (fs:List Fd) (f:Value) (w:World) (h:cu w f fs) (hl:fs.length<=100000) (hs:∀g∈fs,g.1.size<=1000000) (hs2:∀g∈fs,g.2.size<=1000000) (hj:(bu (ay fs mR)).size<=900000):
 Calls Tryz.prog 104 #[f] w fun e w'=>e=.returned (.tuple #[.bool (fy fs).1,.int .i64 (fy fs).2])/\Below w.heap.size w w':=by
 have HC:=lH (yH fs f mR w h hl hs hs2 (by decide))
 have hcp:fy fs=if ay fs mR=[] then (false,0) else match cA (bu (ay fs mR)) with
  | none=>(false,14)
  | some l=>pc l:=rfl
 obtain⟨J,hJ⟩:∃J,J=bu (ay fs mR):=⟨_,rfl⟩;obtain⟨V,hV⟩:∃V,V=fy fs:=⟨_,rfl⟩;rw[<-hV] at hcp ⊢;rw[<-hJ] at HC hj hcp;have hae:(!(ay fs mR).isEmpty)=false↔ay fs mR=[]:=by simp
 obtain⟨has,hhas⟩:∃b,b=!(ay fs mR).isEmpty:=⟨_,rfl⟩;rw[<-hhas] at HC hae;unfold mR at HC;have HSP:=lH (fun(W:World)=>wq J hj W);cases has with
 | false=>
   rw[if_pos (hae.1 rfl)] at hcp;have HV:=lH hcp;clear hcp hV hJ hae hhas h hl hs hs2 hj;go_enter Tryz.func104,Tryz.ntmps104
   go_wp2_with fail
   refine HC.out.mono ?_;rintro x1 w1 ⟨rfl,hb⟩;have HB:=lH hb;clear hb;go_wp2_with fail
   refine(HSP.out _).mono ?_;rintro x2 w2 ⟨v2,rfl,ho,hb⟩;have HB2:=lH (HB.out.trans (hb.mono HB.out.size));clear ho hb;go_wp2_with fail
   go_ret2
   rw[HV.out];exact⟨rfl,HB2.out⟩
 | true=>
   rw[if_neg (fun e=>by have:=hae.2 e;cases this)] at hcp;cases hsp:cA J with
   | none=>
     rw[hsp] at HSP hcp;simp only[Option.isSome_none,Option.getD_none] at HSP;have HV:Hid (V=(false,14)):=hcp;clear hcp hV hJ hae hhas h hl hs hs2 hj hsp;go_enter Tryz.func104,Tryz.ntmps104
     go_wp2_with fail
     refine HC.out.mono ?_;rintro x1 w1 ⟨rfl,hb⟩;have HB:=lH hb;clear hb;go_wp2_with fail
     refine(HSP.out _).mono ?_;rintro x2 w2 ⟨v2,rfl,ho,hb⟩;have HB2:=lH (HB.out.trans (hb.mono HB.out.size));clear ho hb;go_wp2_with fail
     go_ret2
     rw[HV.out];exact⟨rfl,HB2.out⟩
   | some L=>
     rw[hsp] at HSP hcp;simp only[Option.isSome_some,Option.getD_some] at HSP;have hcr:V=pc L:=hcp;have hll:L.length<=1000000:=by have h1:=qO J;rw[hsp] at h1;simp only[Option.getD_some] at h1;omega
     have hls:∀a∈L,a.size<=900000:=fun a ha=>by have h1:=nO J a (by rw[hsp];exact ha);omega
     have HLS:=lH hls;obtain⟨n,hn⟩:∃n,n=L.length:=⟨_,rfl⟩;have HN:=lH hn;have hn6:n<=1000000:=by omega
     have HCR:=lH hcr;rw[<-hn] at hll;by_cases hn0:n=0
     ·have HV:Hid (V=(false,14)):=by
       show V=_;have:L=[]:=EU (by omega);rw[hcr,this];rfl
      have e0:((n:Int)==0)=true:=by rw[FA];omega
      clear hcp hV hJ hae hhas h hl hs hs2 hj hsp hcr hls hn0;go_enter Tryz.func104,Tryz.ntmps104
      go_wp2_with fail
      refine HC.out.mono ?_;rintro x1 w1 ⟨rfl,hb⟩;have HB:=lH hb;clear hb;go_wp2_with fail
      refine(HSP.out _).mono ?_;rintro x2 w2 ⟨v2,rfl,ho,hb⟩;obtain⟨p2,c2,rfl⟩:=ap.shape ho;have HB2:=lH (HB.out.trans (hb.mono HB.out.size));clear ho hb;rw[<-hn];clear hn;go_wp2_with fail
      go_ret2
      rw[HV.out];exact⟨rfl,HB2.out⟩
     ·have e0:((n:Int)==0)=false:=by rw[EJ];omega
      clear hcp hV hJ hae hhas h hl hs hs2 hj hsp hcr hls;go_enter Tryz.func104,Tryz.ntmps104
      go_wp2_with fail
      refine HC.out.mono ?_;rintro x1 w1 ⟨rfl,hb⟩;have HB:=lH hb;clear hb;go_wp2_with fail
      refine(HSP.out _).mono ?_;rintro x2 w2 ⟨v2,rfl,ho,hb⟩;obtain⟨p2,c2,rfl⟩:=ap.shape ho;have HB2:=lH (HB.out.trans (hb.mono HB.out.size));have HS2:=lH (ap.strs ho);clear ho hb;rw[<-hn] at HS2 ⊢;clear hn;go_wp2_with fail
      go_loopw [8] (fun u8 wr=>∃k:Nat,k<=n/\u8=.int .i64 k/\(∀j (hj:j<L.length),j<k->jH (decide (j+1=n)) L[j]=false)/\Below w2.heap.size w2 wr) (fun u8 _=>n - (intOf u8).toNat)
      case atStart=>exact⟨0,EN _,rfl,fun j _ h=>absurd h (FS _),EK _ _⟩
      case round=>
       obtain⟨k,hk,rfl,hall,hb⟩:=hrel;have HBR:=lH hb;have HALL:=lH hall;have HSR:=lH (HS2.out.below hb);clear hb hall;by_cases hlt:k<n
       ·have hk1:decide ((k:Int)<(n:Int))=true:=dT (by omega)
        have hkL:k<L.length:=by rw[<-HN.out];exact hlt
        obtain⟨p7,c7,hv7,hcell⟩:=HSR.out;injection hv7 with e1 e2 e3
        subst e1 e3;obtain⟨b,off,hp,c0⟩:=hcell k hkL;subst hp;obtain⟨y,hy⟩:∃y,y=L[k]'hkL:=⟨_,rfl⟩;rw[<-hy] at c0;have HPW:=lH (rY y (HLS.out y (by rw[hy];exact FT _)) wr);have hbw:=B5 (decide (k+1=n)) y;have hch:mN y=decide ((aW y).1=we):=rfl;obtain⟨W,hW⟩:∃W,W=aW y:=⟨_,rfl⟩;rw[<-hW] at HPW hbw hch;obtain⟨W1,W2,W3⟩:=W;dsimp only at HPW hbw hch
        have hst:(W1.toList==(⟨#[99,104,117,110,107,101,100]⟩:ByteArray).toList)=mN y:=by rw[wW,hch];rfl
        rw[show (⟨#[99,104,117,110,107,101,100]⟩:ByteArray).toList=[99,104,117,110,107,101,100] from by rw[Gj]] at hst;obtain⟨B,hBe⟩:∃b,b=mN y:=⟨_,rfl⟩;rw[<-hBe] at hst hbw
        have hlast:((k:Int)==(n:Int) - 1)=decide (k+1=n):=by
         rw[F6,FA,EO];omega
        obtain⟨LA,hLA⟩:∃b,b=decide (k+1=n):=⟨_,rfl⟩;rw[<-hLA] at hlast hbw;have HLA:=lH hLA;have HY:=lH hy;have hk0:(0:Int)<=(k:Int):=by omega
        have hki:(k:Int)<(n:Int):=by omega
        have HBW:=lH hbw;have HKL:=lH hkL;clear hy hW hch hBe hLA hcell e2 hbw
        -- the test
        have htest:(W3 != 0)=true\/((W3 != 0)=false/\(LA != B)=true)\/((W3 != 0)=false/\(LA != B)=false):=by
         cases (W3 != 0)<;>cases (LA != B)<;>simp
        rcases htest with g1|⟨g1,g2⟩|⟨g1,g2⟩
        ·have HV:Hid (V=(false,14)):=by
          show V=_;refine HCR.out.trans (oT (k:=k) HKL.out ?_);rw[<-HY.out,<-HN.out,<-HLA.out,HBW.out,g1];rfl
         go_wp2_with (go_at_call 133;refine HPW.out.mono ?_)
         rintro x3 w3 ⟨p3,c3,rfl,hb3⟩;have HB3:=lH (HBR.out.trans (hb3.mono HBR.out.size));clear hb3;go_wp2_with fail
         go_ret2
         rw[HV.out];exact⟨rfl,HB2.out.trans (HB3.out.mono HB2.out.size)⟩
        ·have HV:Hid (V=(false,14)):=by
          show V=_;refine HCR.out.trans (oT (k:=k) HKL.out ?_);rw[<-HY.out,<-HN.out,<-HLA.out,HBW.out,g2];simp
         cases LA<;>cases B<;>simp only[bne_self_eq_false,Bool.false_bne,Bool.true_bne,Bool.not_true,Bool.not_false,FX,reduceCtorEq] at g2
         all_goals
          go_wp2_with (go_at_call 133;refine HPW.out.mono ?_)
          rintro x3 w3 ⟨p3,c3,rfl,hb3⟩;have HB3:=lH (HBR.out.trans (hb3.mono HBR.out.size));clear hb3;go_wp2_with fail
          go_ret2
          rw[HV.out];exact⟨rfl,HB2.out.trans (HB3.out.mono HB2.out.size)⟩
        ·cases LA<;>cases B<;>simp only[bne_self_eq_false,Bool.false_bne,Bool.true_bne,Bool.not_true,Bool.not_false,Bool.true_eq_false,reduceCtorEq] at g2
         ·have HG:Hid (jH (decide (k+1=n)) y=false):=by show _=_;rw[<-HLA.out,HBW.out,g1];rfl
          go_wp2_with (go_at_call 133;refine HPW.out.mono ?_)
          rintro x3 w3 ⟨p3,c3,rfl,hb3⟩;have HB3:=lH (HBR.out.trans (hb3.mono HBR.out.size));clear hb3;go_wp2_with fail
          go_roundw
          case rel=>exact⟨k+1,hlt,by go_num,fun j hj hjk=>by
           rcases FM j k with h|h
           ·exact HALL.out j hj h
           ·have e:j=k:=by omega
            subst e
            rw[<-HY.out];exact HG.out,HB3.out⟩
          case measure=>simp[intOf];omega
         ·by_cases hW2:0<W2
          ·have o1:decide ((0:Int)<(W2:Int))=true:=dT (by omega)
           have o2:decide (0<W2)=true:=dT hW2
           have HV:Hid (V=(false,14)):=by
            show V=_;refine HCR.out.trans (oT (k:=k) HKL.out ?_);rw[<-HY.out,<-HN.out,<-HLA.out,HBW.out,o2];simp
           go_wp2_with (go_at_call 133;refine HPW.out.mono ?_)
           rintro x3 w3 ⟨p3,c3,rfl,hb3⟩;have HB3:=lH (HBR.out.trans (hb3.mono HBR.out.size));clear hb3;go_wp2_with fail
           go_ret2
           rw[HV.out];exact⟨rfl,HB2.out.trans (HB3.out.mono HB2.out.size)⟩
          ·have o1:decide ((0:Int)<(W2:Int))=false:=dF (by omega)
           have o2:decide (0<W2)=false:=dF hW2;have HG:Hid (jH (decide (k+1=n)) y=false):=by show _=_;rw[<-HLA.out,HBW.out,g1,o2];rfl
           go_wp2_with (go_at_call 133;refine HPW.out.mono ?_)
           rintro x3 w3 ⟨p3,c3,rfl,hb3⟩;have HB3:=lH (HBR.out.trans (hb3.mono HBR.out.size));clear hb3;go_wp2_with fail
           go_roundw
           case rel=>exact⟨k+1,hlt,by go_num,fun j hj hjk=>by
            rcases FM j k with h|h
            ·exact HALL.out j hj h
            ·have e:j=k:=by omega
             subst e
             rw[<-HY.out];exact HG.out,HB3.out⟩
           case measure=>simp[intOf];omega
       ·have hk1:decide ((k:Int)<(n:Int))=false:=dF (by omega)
        have hkn:k=n:=by omega
        have hgood:∀j (hj:j<L.length),jH (decide (j+1=L.length)) L[j]=false:=fun j hj=>by
         have h:=HALL.out j hj (by rw[hkn,HN.out];exact hj);rw[HN.out] at h;exact h
        have hcv:=ze (l:=L) (by have:=HN.out;omega) hgood;rw[<-HCR.out,<-HN.out] at hcv;clear hkn hgood;by_cases h1:1<n
        ·have HV:Hid (V=(false,15)):=by show V=_;rw[hcv,if_pos h1]
         have o1:decide ((1:Int)<(n:Int))=true:=dT (by omega);have o2:decide (1<n)=true:=dT h1;clear hcv;go_wp2_with fail
         go_ret2
         rw[HV.out];exact⟨rfl,HB2.out.trans (HBR.out.mono HB2.out.size)⟩
        ·have HV:Hid (V=(true,0)):=by show V=_;rw[hcv,if_neg h1]
         have o1:decide ((1:Int)<(n:Int))=false:=dF (by omega);have o2:decide (1<n)=false:=dF h1;clear hcv;go_wp2_with fail
         go_ret2
         rw[HV.out];exact⟨rfl,HB2.out.trans (HBR.out.mono HB2.out.size)⟩
end Go.Proofs.YthjbodpeckebiaaGreatDoor
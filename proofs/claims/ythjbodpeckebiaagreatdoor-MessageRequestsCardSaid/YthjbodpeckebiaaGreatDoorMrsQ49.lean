/- Texts packed for one claim, 49 of 52: RfG RfG2. -/
import Derived.Test.YthjbodpeckebiaaGreatDoorMrsQ27
import Derived.Test.YthjbodpeckebiaaGreatDoorMrsQ48
import Derived.Test.YthjbodpeckebiaaGreatDoorMrsQ44
set_option maxRecDepth 100000
set_option maxHeartbeats 16000000
set_option linter.unusedSimpArgs false
set_option linter.unusedVariables false
-- RfG
namespace Go.Proofs.YthjbodpeckebiaaGreatDoor
open Go.RowKit
theorem lI {ops:Array Oper} {rest:List Oper} {o:Oper} {a:Act} {Q:Exit->Act->World->Prop} (hgd:o.guard=none) (s x:Operand)
 (ho:o.op=.call { callee:=.builtin .append,args:=#[s,x],argTypes:=#[22,22] }) {w:World} {B:Nat} {v:Value} {l:List ByteArray} (hs:a.eval s=v) (hown:ap w B v l) (ys:List ByteArray)
 (gb off n c:Nat) (hx:a.eval x=.slice (some ⟨gb,off,none⟩) n c) (hn:n=ys.length) (hys:∀j (h:j<ys.length),w.cell? ⟨gb,off+j,none⟩=some (.string ys[j])) (hl:l.length+n<=1000000) (hB:B<=w.heap.size)
 (h:∀p c w1,ap w1 B (.slice p (l.length+n) c) (l++ys)->w.grownBy w1 v.ownBlock->Below B w w1->wpList Tryz.prog ops Q rest (a.put o.dst (.slice p (l.length+n) c)) w1):
 wpList Tryz.prog ops Q (o :: rest) a w:=by
 obtain⟨i0,hi,hz0,hz1,hz2⟩:=info_parts jj;have hlo:=hown.lt;subst hn;refine wpList_append_own _ hgd s x 22 ho B 9 i0 _ 1 16 Tryz.underlying22 hi hz0 hz1 hz2 rfl (by decide) v l.length (l.map Value.string) hs hown ⟨gb,off,none⟩ ys.length c (ys.map Value.string) hx (by simp) ?c1 ?c2 ?c3 ?c4 hB ?_
 case c1=>
  intro j u hu;rw[Gk] at hu;rcases FM j ys.length with hj|hj
  ·rw[EM hj] at hu
   cases hu
   rw[gU];exact hys j hj
  ·rw[FO hj] at hu
   cases hu
 case c2=>intro u hu;obtain⟨_,_,rfl⟩:=List.mem_map.1 hu;rfl
 case c3=>unfold maxLen;omega
 case c4=>omega
 intro v' w1 hown1 hg _;obtain⟨p',c',rfl⟩:=aC hown1;refine h p' c' w1 ?_ hg ((EK _ _).grown hg hB (fun j hj=>by have:=(hlo j hj).1;omega));show w1.ownsRow B 9 1 _ (l++ys).length ((l++ys).map Value.string);rw[EY,Fo];exact hown1
def DV (p:List UInt8):ByteArray:=⟨(cO p).toArray⟩
theorem BM (x:ByteArray):DV x.data.toList=aX x:=rfl
theorem AC (p:List UInt8):(DV p).size<=p.length:=by
 unfold DV;have:=iC p;show (cO p).toArray.size<=_;simpa using this
theorem jT:∀(l a:List UInt8),∀p∈bN a l,p.length<=a.length+l.length
 | [],a,p,h=>by
   unfold bN at h;rw[Gw.1 h];simp
 | c :: l,a,p,h=>by
   unfold bN at h;split at h
   ·rcases GT.1 h with e|h
    ·rw[e];simp
    ·have:=jT l [] p h
     simp at this ⊢;omega
   ·have:=jT l _ p h
    simp at this ⊢;omega
theorem uD (s:ByteArray):∀p∈bs s,p.size<=s.size:=by
 intro p hp;obtain⟨q,hq,rfl⟩:=List.mem_map.1 hp;have h1:=jT _ _ q hq;have h2:=AC q;unfold DV at h2;simp at h1;omega
theorem vd (s:ByteArray) (hs:s.size<=900000) (w:World):
 Calls Tryz.prog 134 #[.string s] w fun e w'=>∃v,e=.returned v/\ap w' w.heap.size v (bs s)/\Below w.heap.size w w':=by
 have hsi:(s.size:Int)<=900000:=by omega
 have hsl:s.data.toList.length=s.size:=by simp
 have HSL:=lH hsl;have HO0:=lH (ap.empty w);have HB0:=lH ((EK w.heap.size w).alloc (nR _) (.cells #[] 9));obtain⟨R,hR⟩:∃R,R=bs s:=⟨_,rfl⟩;rw[<-hR];have HR:=lH (show R=(bN [] s.data.toList).map DV from hR);clear hsl hR;go_enter Tryz.func134,Tryz.ntmps134
 go_wp2_with fail
 go_loopw [3,4,5] (fun u3 u4 u5 wr=>∃(k f:Nat) (D:List ByteArray),f<=k/\k<=s.size/\D.length<=f/\u4=.int .i64 f/\u5=.int .i64 k/\ap wr w.heap.size u3 D/\R=D++(bN (s.extract f k).data.toList (s.data.toList.drop k)).map DV/\Below w.heap.size w wr) (fun _ _ u5 _=>s.size - (intOf u5).toNat)
 case atStart=>
  refine⟨0,0,[],nR _,EN _,nR _,rfl,rfl,HO0.out,?_,HB0.out⟩;rw[HR.out,Ff,gA];rfl
 case round=>
  obtain⟨k,f,D,hfk,hk,hDf,rfl,rfl,ho,hrr,hb⟩:=hrel;have HO:=lH ho;have HB:=lH hb;have HRR:=lH hrr;have HZ:=lH hb.size;have HDL:Hid (D.length<=1000000):=by show _<=_;omega
  have HDF:=lH hDf;clear ho hb hrr hDf;by_cases hlt:k<s.size
  ·have hk1:decide ((k:Int)<(s.size:Int))=true:=dT (by omega)
   have hix:=aj s k hlt;obtain⟨c,hc,hdr⟩:=aL s k hlt
   have hcg:c=s[k]'hlt:=by
    have:=aA s k hlt;apply Fg.1;omega
   obtain⟨x,hx⟩:∃x,x=bt s k:=⟨_,rfl⟩;rw[<-hx] at hix hc;have hq:=HRR.out;rw[hdr] at hq;have hES:=oN hfk hlt;rw[<-hcg] at hES;by_cases h44:x=44
   ·have hc44:c=44:=(ej (n:=44) (by decide)).1 (by omega)
    subst h44;obtain⟨X,hX⟩:∃X,X=s.extract f k:=⟨_,rfl⟩
    have hslc:∀W:World,(Instr.slice 9 (.string s) (some (.int .i64 (f:Int))) (some (.int .i64 (k:Int))) none).run Tryz.prog W=.ok (.string X) W:=fun W=>by
     rw[run_slice_string W 9 s .i64 .i64 (f:Int) (k:Int) Tryz.underlying9 (by omega) (by omega) (by omega),EX,EX,hX]
    have hXz:X.size<=9223372036854775807:=by rw[hX];simp;omega
    have HT:=lH (fun W=>gG X hXz W);obtain⟨T,hTe⟩:∃T,T=aX X:=⟨_,rfl⟩;rw[<-hTe] at HT
    have HN:Hid (R=(D++[T])++(bN (s.extract (k+1) (k+1)).data.toList (s.data.toList.drop (k+1))).map DV):=by
     show R=_;rw[hq,hc44,bN,if_pos rfl,gA,List.map_cons,hTe,<-BM,hX,FZ];rfl
    clear hc hx hc44 hX hXz hTe hq hdr hES hcg
    go_wp2_with (first
     | (go_at_call 158;refine(HT.out _).mono ?_;rintro e5 w5 ⟨rfl,rfl⟩)
     | (at_builtin;refine aF rfl _ _ rfl rfl HO.out T rfl HDL.out HZ.out ?_;intro p4 c4 w4 ho4 _ hb4;have HO4:=lH ho4;have HB4:=lH (HB.out.trans hb4);clear ho4 hb4))
    go_roundw
    case rel=>exact⟨k+1,k+1,D++[T],nR _,hlt,by rw[EY];have:=HDF.out;simp;omega,by go_num,by go_num,HO4.out,HN.out,HB4.out⟩
    case measure=>simp[intOf];omega
   ·have x44:(x==44)=false:=by rw[EJ];exact h44
    have HN:Hid (R=D++(bN (s.extract f (k+1)).data.toList (s.data.toList.drop (k+1))).map DV):=by
     show R=_;rw[hq,bN,if_neg (fun e=>h44 (by rw[hc,e];rfl)),hES]
    clear hc hx h44 hq hdr hES hcg;go_wp2_with fail
    go_roundw
    case rel=>exact⟨k+1,f,D,by omega,hlt,HDF.out,rfl,by go_num,HO.out,HN.out,HB.out⟩
    case measure=>simp[intOf];omega
  ·have hk1:decide ((k:Int)<(s.size:Int))=false:=dF (by omega)
   obtain⟨X,hX⟩:∃X,X=s.extract f s.size:=⟨_,rfl⟩
   have hslc:∀W:World,(Instr.slice 9 (.string s) (some (.int .i64 (f:Int))) none none).run Tryz.prog W=.ok (.string X) W:=fun W=>by
    rw[FR W 9 s Tryz.underlying9 .i64 (f:Int) (by omega) (by omega),EX,hX]
   have hXz:X.size<=9223372036854775807:=by rw[hX];simp;omega
   have HT:=lH (fun W=>gG X hXz W);obtain⟨T,hTe⟩:∃T,T=aX X:=⟨_,rfl⟩;rw[<-hTe] at HT
   have HN:Hid (D++[T]=R):=by
    show _=R;have hks:k=s.size:=by omega
    have h:=HRR.out;rw[hks,E6 (by have:=HSL.out;omega),bN] at h;rw[h,hTe,<-BM,hX];rfl
   clear hX hXz hTe
   go_wp2_with (first
    | (go_at_call 158;refine(HT.out _).mono ?_;rintro e5 w5 ⟨rfl,rfl⟩)
    | (at_builtin;refine aF rfl _ _ rfl rfl HO.out T rfl HDL.out HZ.out ?_;intro p4 c4 w4 ho4 _ hb4;have HO4:=lH ho4;have HB4:=lH (HB.out.trans hb4);clear ho4 hb4))
   go_ret;refine⟨_,rfl,?_,HB4.out⟩;rw[<-HN.out];exact HO4.out
end Go.Proofs.YthjbodpeckebiaaGreatDoor
-- RfG2
namespace Go.Proofs.YthjbodpeckebiaaGreatDoor
open Go.RowKit
theorem AY {f:Int} {p:ByteArray} {t:List ByteArray} (h:(am p.data.toList 10 2147483647).2≠0\/(0<=f/\(am p.data.toList 10 2147483647).1≠f)):dN f (p :: t)=none:=by rw[dN,if_pos h]
theorem Ci {f:Int} {p:ByteArray} {t:List ByteArray} (h:¬((am p.data.toList 10 2147483647).2≠0\/(0<=f/\(am p.data.toList 10 2147483647).1≠f))):dN f (p :: t)=dN (am p.data.toList 10 2147483647).1 t:=by rw[dN,if_neg h]
def lnS (k:Nat) (f n:Int):Prop:=(k=0/\f=-1/\n=0)\/(0<k/\0<=f/\n=f)
theorem vK (fs:List Fd) (f:Value) (w:World) (h:cu w f fs) (hl:fs.length<=1000000) (hs:∀g∈fs,g.1.size<=1000000) (hs2:∀g∈fs,g.2.size<=900000) (hcap:jG (ay fs mT)<=900000):
 Calls Tryz.prog 105 #[f] w fun e w'=>e=.returned (.tuple #[.int .i64 ((dZ fs).elim 0 (max · 0)),.bool ((dZ fs).elim false (fun r=>decide (0<=r))),.int .i64 ((dZ fs).elim 14 (fun _=>0))])/\Below w.heap.size w w':=by
 have HA:=lH (kM fs f mT w h hl hs (by decide))
 have hvs:∀s∈ay fs mT,s.size<=900000:=fun s hss=>by
  unfold ay at hss;obtain⟨q,hq,rfl⟩:=List.mem_map.1 hss;exact hs2 q (List.mem_filter.1 hq).1
 have hvl:=gX fs mT;obtain⟨V,hV⟩:∃V,V=dZ fs:=⟨_,rfl⟩;rw[<-hV];unfold dZ at hV;obtain⟨vals,hvals⟩:∃l,l=ay fs mT:=⟨_,rfl⟩;rw[<-hvals] at HA hvs hvl hV hcap;unfold mT at HA;have HVS:=lH hvs;have HV:=lH hV;have HCAP:=lH hcap;obtain⟨n,hn⟩:∃n,n=vals.length:=⟨_,rfl⟩;have HN:=lH hn;have hn6:n<=1000000:=by omega
 clear hvals hvs hvl hV hcap h hl hs hs2;go_enter Tryz.func105,Tryz.ntmps105
 go_wp2_with fail
 refine HA.out.mono ?_;rintro e1 w1 ⟨v1,rfl,ho1,hb1⟩;have HB1:=lH hb1;obtain⟨p1,c1,rfl⟩:=ap.shape ho1;have HS1:=lH (ap.strs ho1);have HE0:=lH (ap.empty w1);have HEB:=lH ((EK w1.heap.size w1).alloc (nR _) (.cells #[] 9));clear ho1 hb1;rw[<-hn] at HS1 ⊢;clear hn;go_wp2_with fail
 go_loopw [6,7] (fun u6 u7 wr=>∃k:Nat,k<=n/\u7=.int .i64 k/\ap wr w1.heap.size u6 ((vals.take k).flatMap bs)/\Below w1.heap.size w1 wr) (fun _ u7 _=>n - (intOf u7).toNat)
 case atStart=>exact⟨0,EN _,rfl,HE0.out,HEB.out⟩
 case round=>
  obtain⟨k,hk,rfl,ho,hb⟩:=hrel;have HO:=lH ho;have HB:=lH hb;have HZ:=lH hb.size;have HS2:=lH (HS1.out.below hb);clear ho hb;by_cases hlt:k<n
  ·have hk1:decide ((k:Int)<(n:Int))=true:=dT (by omega)
   have hkV:k<vals.length:=by rw[<-HN.out];exact hlt
   obtain⟨p5,c5,hv5,hcell⟩:=HS2.out;injection hv5 with e1 e2 e3
   subst e1 e3;obtain⟨b,off,hp,c0⟩:=hcell k hkV;subst hp;obtain⟨y,hy⟩:∃y,y=vals[k]'hkV:=⟨_,rfl⟩;rw[<-hy] at c0;have hyz:y.size<=900000:=HVS.out y (by rw[hy];exact FT _);have HP:=lH (vd y hyz wr);have HT:Hid ((vals.take (k+1)).flatMap bs=(vals.take k).flatMap bs++bs y):=by show _=_;rw[hy];exact qS vals k hkV
   have hcp:((vals.take k).flatMap bs).length+(bs y).length<=1000000:=by
    have h1:=jA (vals.take k);have h2:=pQ y;have h3:=qE vals k hkV;rw[<-hy] at h3;have h5:=HCAP.out;omega
   have hne:0<(bs y).length:=by
    have:bs y≠[]:=by unfold bs;rw[ne_eq,List.map_eq_nil_iff];exact ua _ _
    exact List.length_pos_iff.2 this
   have HO':=HO.out;obtain⟨Pk,hPk⟩:∃l,l=(vals.take k).flatMap bs:=⟨_,rfl⟩;obtain⟨Y,hY⟩:∃l,l=bs y:=⟨_,rfl⟩;rw[<-hPk] at HO' HT hcp;rw[<-hY] at HT hcp hne HP;have HO2:=lH HO';have HCP:=lH hcp;have HNE:=lH hne;have hk0:(0:Int)<=(k:Int):=by omega
   have hki:(k:Int)<(n:Int):=by omega
   clear hy hyz hcp hne hcell hkV e2 hPk hY HO' HO;go_wp2_with (go_at_call 134;refine HP.out.mono ?_)
   rintro e2 w2 ⟨v2,rfl,ho2,hb2⟩;obtain⟨g2,cp2,cur2,rfl,-,hg2,-,-⟩:=ap.block ho2 HNE.out
   have HC2:Hid (∀j (h:j<Y.length),w2.cell? ⟨g2,0+j,none⟩=some (.string Y[j])):=fun j hj=>by
    rw[FQ];exact ap.cell ho2 j hj
   have HO3:=lH (HO2.out.call hb2);have HB2:=lH (HB.out.trans (hb2.mono HZ.out));have HZ2:=lH HB2.out.size;clear ho2 hb2 hg2 cur2;go_wp2_with (at_builtin;refine lI rfl _ _ rfl rfl HO3.out Y g2 0 _ _ rfl rfl HC2.out HCP.out HZ2.out ?_;intro p4 c4 w4 ho4 _ hb4;have HO4:=lH ho4;have HB4:=lH (HB2.out.trans hb4);clear ho4 hb4)
   go_roundw
   case rel=>
    refine⟨k+1,hlt,by go_num,?_,HB4.out⟩;rw[HT.out];exact HO4.out
   case measure=>simp[intOf];omega
  ·have hk1:decide ((k:Int)<(n:Int))=false:=dF (by omega)
   have hkn:k=n:=by omega
   obtain⟨P,hPe⟩:∃P,P=vals.flatMap bs:=⟨_,rfl⟩
   have HO2:Hid (ap wr w1.heap.size u6 P):=by
    have h:=HO.out;rw[hkn,HN.out,F8,<-hPe] at h;exact h
   have HVP:Hid (V=dN (-1) P):=by show V=_;rw[HV.out,hPe]
   have hpz:∀x∈P,x.size<=1000000:=fun x hx=>by
    rw[hPe] at hx;obtain⟨y,hy,hxy⟩:=List.mem_flatMap.1 hx;have h1:=uD y x hxy;have h2:=HVS.out y hy;omega
   have HPZ:=lH hpz;obtain⟨m,hm⟩:∃m,m=P.length:=⟨_,rfl⟩
   have hm6:m<=1000000:=by
    have h1:=jA vals;have h2:=HCAP.out;rw[<-hPe] at h1;omega
   have HM:=lH hm;obtain⟨p6,c6,hv6⟩:=ap.shape HO2.out;rw[<-hm] at hv6;subst hv6;have HSP:=lH (ap.strs HO2.out);obtain⟨w0,hw0⟩:∃w0:World,w0=wr:=⟨_,rfl⟩;rw[<-hw0] at HSP HB ⊢;clear hkn hPe hpz hm HO HO2 HZ HS2 hw0 hk1;go_wp2_with fail
   go_loop [8,9] (fun u8 u9=>∃(k:Nat) (f N:Int),k<=m/\u9=.int .i64 k/\u8=.int .i64 N/\lnS k f N/\V=dN f (P.drop k)) (fun _ u9=>m - (intOf u9).toNat)
   case atStart=>exact⟨0,-1,0,EN _,rfl,rfl,Or.inl ⟨rfl,rfl,rfl⟩,by rw[Ff];exact HVP.out⟩
   case round=>
    obtain⟨k,f,N,hk,rfl,rfl,hst,hv⟩:=hrel;have HST:=lH hst;have HVV:=lH hv;clear hst hv;by_cases hlt:k<m
    ·have hk1:decide ((k:Int)<(m:Int))=true:=dT (by omega)
     have hkP:k<P.length:=by rw[<-HM.out];exact hlt
     obtain⟨p7,c7,hv7,hcell⟩:=HSP.out;injection hv7 with e1 e2 e3
     subst e1 e3;obtain⟨b,off,hp,c0⟩:=hcell k hkP;subst hp;obtain⟨y,hy⟩:∃y,y=P[k]'hkP:=⟨_,rfl⟩;rw[<-hy] at c0;have hyz:y.size<=1000000:=HPZ.out y (by rw[hy];exact FT _);have hdr:P.drop k=y :: P.drop (k+1):=by rw[hy];exact Fa hkP
     obtain⟨q,hq⟩:∃q,q=am y.data.toList 10 2147483647:=⟨_,rfl⟩;have hq0:=xR y.data.toList 2147483647;have hgo:=@Ci f y (P.drop (k+1));have hbad:=@AY f y (P.drop (k+1));rw[<-hq] at hq0 hgo hbad;rw[<-hdr,<-HVV.out] at hgo hbad;obtain⟨q1,q2⟩:=q;have HNU:=lH (fun W=>lY y hyz 2147483647 (by decide) (by decide) q1 q2 hq.symm W);dsimp only at hq0 hgo hbad
     have hk0:(0:Int)<=(k:Int):=by omega
     have hki:(k:Int)<(m:Int):=by omega
     clear hy hyz hcell hkP e2 hdr hq;by_cases hz:q2=0
     ·subst hz
      rcases HST.out with ⟨hk0',hf,hN⟩|⟨hk0',hf,hN⟩
      ·have HG:Hid (V=dN q1 (P.drop (k+1))):=hgo (by rintro (h|⟨h,_⟩);exact h rfl;omega)
       have o1:decide ((0:Int)<(k:Int))=false:=dF (by omega);have o2:decide (0<k)=false:=dF (by omega);clear hgo hbad hk0' hf hN;go_wp2_with (go_at_call 103;refine(HNU.out _).mono ?_;rintro e8 w8 ⟨rfl,rfl⟩)
       go_round
       case rel=>exact⟨k+1,q1,q1,hlt,by go_num,rfl,Or.inr ⟨by omega,hq0,rfl⟩,HG.out⟩
       case measure=>simp[intOf];omega
      ·have o1:decide ((0:Int)<(k:Int))=true:=dT (by omega)
       have o2:decide (0<k)=true:=dT hk0';by_cases hqf:q1=f
       ·have HG:Hid (V=dN q1 (P.drop (k+1))):=hgo (by rintro (h|⟨_,h⟩);exact h rfl;exact h hqf)
        have o3:(q1 != N)=false:=by rw[hN,hqf];simp
        have o4:(q1==N)=true:=by rw[hN,hqf];simp
        clear hgo hbad hk0' hf hN hqf;go_wp2_with (go_at_call 103;refine(HNU.out _).mono ?_;rintro e8 w8 ⟨rfl,rfl⟩)
        go_round
        case rel=>exact⟨k+1,q1,q1,hlt,by go_num,rfl,Or.inr ⟨by omega,hq0,rfl⟩,HG.out⟩
        case measure=>simp[intOf];omega
       ·have HG:Hid (V=none):=hbad (Or.inr ⟨hf,hqf⟩)
        have o3:(q1 != N)=true:=by rw[FP,hN];exact hqf
        have o4:(q1==N)=false:=by rw[EJ,hN];exact hqf
        clear hgo hbad hk0' hf hN hqf;go_wp2_with (go_at_call 103;refine(HNU.out _).mono ?_;rintro e8 w8 ⟨rfl,rfl⟩)
        go_ret3
        rw[HG.out];exact⟨rfl,HB1.out.trans (HB.out.mono HB1.out.size)⟩
     ·have HG:Hid (V=none):=hbad (Or.inl hz)
      have o3:(q2 != 0)=true:=by rw[FP];exact hz
      have o4:(q2==0)=false:=by rw[EJ];exact hz
      clear hgo hbad hz;go_wp2_with (go_at_call 103;refine(HNU.out _).mono ?_;rintro e8 w8 ⟨rfl,rfl⟩)
      go_ret3
      rw[HG.out];exact⟨rfl,HB1.out.trans (HB.out.mono HB1.out.size)⟩
    ·have hk1:decide ((k:Int)<(m:Int))=false:=dF (by omega)
     have hkm:k=m:=by omega
     have hV:V=some f:=by
      rw[HVV.out,hkm,HM.out,List.drop_length];rfl
     rcases HST.out with ⟨hk0',hf,hN⟩|⟨hk0',hf,hN⟩
     ·have HG:Hid (V=some (-1)):=by show V=_;rw[hV,hf]
      have o1:decide ((0:Int)<(m:Int))=false:=dF (by omega);have o2:decide (0<m)=false:=dF (by omega);subst hN;clear hV hkm hf;go_wp2_with fail
      go_ret3
      rw[HG.out];exact⟨rfl,HB1.out.trans (HB.out.mono HB1.out.size)⟩
     ·have HG:Hid (V=some N):=by show V=_;rw[hV,hN]
      have hN0:0<=N:=by omega
      have HM2:Hid (max N 0=N):=by show _=_;omega
      have HD:Hid (decide (0<=N)=true):=dT hN0;have o1:decide ((0:Int)<(m:Int))=true:=dT (by omega);have o2:decide (0<m)=true:=dT (by omega);clear hV hkm hf hN hN0;go_wp2_with fail
      go_ret3
      rw[HG.out];refine⟨?_,HB1.out.trans (HB.out.mono HB1.out.size)⟩;show _=Ending.returned (.tuple #[.int .i64 (max N 0),.bool (decide (0<=N)),.int .i64 0]);rw[HM2.out,HD.out];rfl
end Go.Proofs.YthjbodpeckebiaaGreatDoor
/- Texts packed for one claim, 23 of 48: LsIt. -/
import Derived.Test.YthjbodpeckebiaaGreatDoorRdnQ4
import Derived.Test.YthjbodpeckebiaaGreatDoorRdnQ22
import Derived.Test.YthjbodpeckebiaaGreatDoorRdnQ2
set_option maxRecDepth 100000
set_option maxHeartbeats 16000000
set_option linter.unusedSimpArgs false
set_option linter.unusedVariables false
-- LsIt
namespace Go.Proofs.YthjbodpeckebiaaGreatDoor
open Go.RowKit Go.Shelf
attribute [local go_sem] Oper.semAt_some
abbrev Tx:={ x:ByteArray // x.size<=1000000 }
def gZ (q:Tx):List UInt8:=q.1.data.toList
theorem dz {X:Nat->Prop} {T:TypeId} {N Z:Nat} {A B:World} {k:Nat} {cs:Array Value} {ty:TypeId} (h:ac A k cs ty) (t:eF X T N Z A B) (hX:¬X k) (hT:ty≠T\/k<N):ac B k cs ty:=t.keep h hX hT
theorem qJ {s:ByteArray} {f k:Nat} (hf:f<=k) (hk:k<s.size):(s.extract f (k+1)).data.toList=(s.extract f k).data.toList++[s[k]'hk]:=by
 rw[Lib.extract_data,Lib.extract_data,show k+1 - f=k - f+1 by omega,List.take_add_one,uX,show f+(k - f)=k by omega,tW (by simpa using hk)];rfl
theorem kZ (s:ByteArray) (k:Nat):(s.extract k k).data.toList=[]:=by rw[Lib.extract_data,Nat.sub_self,List.take_zero]
theorem px {x:Sc} {a l:List UInt8} (h:x.closed=true):gU x a (44 :: l)=a :: gU x [] l:=by rw[gU,h,Bool.and_true,if_pos (by decide)]
theorem sp {x:Sc} {a l:List UInt8} {c:UInt8} (h:(c==44)=false\/x.closed=false):gU x a (c :: l)=gU (x.see c.toNat) (a++[c]) l:=by
 rw[gU,if_neg];rcases h with h|h
 ·rw[h,Bool.false_and];decide
 ·rw[h,Bool.and_false];decide
theorem oG (F:Fence) (n:Nat) (hw:∀f args (W:World) R M,Calls Tryz.prog f args W R->CallsIn F M Tryz.prog f args W R) (hfn:∀f,F.fn f) (hro:F.round=none) (hn:1<=n) (y B g NT Z:Nat) (KX:Nat->Prop) (s:ByteArray) (hs:s.size<=1000000) (J Jx:List Tx->World->Prop)
 (
  hY:∀pre x W,J pre W->pre.length<s.size+1->YieldAt F (n - 1) Tryz.prog y #[.string x.1] W fun e W'=>
  (e=.returned (.bool true)/\J (pre++[x]) W'/\eF KX 9 NT Z W W')\/(e=.returned (.bool false)/\Jx (pre++[x]) W'/\eF KX 9 NT Z W W'))
 (W:World) (hJ:az 222 B W.heap.size J) (hB:B<=W.heap.size) (hg:g<NT) (hgX:¬KX g) (hXW:∀k,KX k->k<W.heap.size) (h1:ac W g #[.string s] 9) (h0:J [] W):
 CallsIn F n Tryz.prog 222 #[.func (.yield y) #[] #[],.pointer (some ⟨g,0,none⟩)] W fun e W'=>(∃v,e=.returned v)/\
  ((∃ys:List Tx,ys.map gZ=gU kG [] s.data.toList/\J ys W')\/(∃pre,True/\Jx pre W')):=by
 have HW:=lH hw;have HFN:=lH hfn;have HY:=lH hY;have HJ0:=lH (hJ.alloc (.cells #[.bool false,.bool false,.int .i64 0] 222) h0);have HST:=lH hJ;have HXX:Hid (¬KX W.heap.size):=fun h=>Nat.lt_irrefl _ (hXW _ h);have HG:=lH (And.intro hg hgX);have HB:=lH hB;have HK1:Hid (ac (W.alloc (.cells #[.bool false,.bool false,.int .i64 0] 222)) g #[.string s] 9):=h1.alloc _;have HK2:Hid (ac (W.alloc (.cells #[.bool false,.bool false,.int .i64 0] 222)) W.heap.size kG.row 222):=ac.new _ _ _;have q1:=HK1.out.cell 0;simp at q1;have hsi:(s.size:Int)<=1000000:=by omega
 obtain⟨R,hR⟩:∃R,R=gU kG [] s.data.toList:=⟨_,rfl⟩;have HR:=lH hR;rw[<-hR];clear hw hfn hY hJ h0 hB hg hgX hXW h1 hR;refine callsIn_of_wp Tryz.func222 rfl (HFN.out _) ?_ hro;simp only[Tryz.ntmps222,List.size_toArray,t4,uT,Nat.reduceAdd,Nat.reduceSub,Array.replicate_succ,Array.replicate_zero,List.push_toArray,List.append_toArray,vm,uS];gi_wp2_with fail
 gi_loopw [4,8] (fun fv i wr=>∃(k f:Nat) (x:Sc) (pre:List Tx),k<=s.size/\f<=k/\fv=.int .i64 f/\i=.int .i64 k/\pre.map gZ++gU x (s.extract f k).data.toList (s.data.toList.drop k)=R/\pre.length<=f/\x.d<=k/\J pre wr/\ac wr W.heap.size x.row 222/\ac wr g #[.string s] 9)
  (fun _ i _=>s.size - (intOf i).toNat)
 case atStart=>exact⟨0,0,kG,[],tX _,nR _,rfl,rfl,by rw[HR.out,kZ];rfl,nR _,nR _,HJ0.out,HK2.out,HK1.out⟩
 case round=>
  obtain⟨k,f,x,pre,hk,hf,rfl,rfl,hres,hpl,hxd,hJs,hb1,hb2⟩:=hrel;have HRes:=lH hres;have HPL:=lH hpl;have HXD:=lH hxd;have HJ:=lH hJs;have HB1:=lH hb1;have HB2:=lH hb2;have q1:=hb2.cell 0;simp at q1;clear hres hpl hxd hJs hb1 hb2;by_cases hlt:k<s.size
  ·have hk1:decide ((k:Int)<(s.size:Int))=true:=dT (by omega)
   have hix:=ar s k hlt;obtain⟨c,hc,hdr⟩:=cz s k hlt;obtain⟨b,hb⟩:∃b,b=bt s k:=⟨_,rfl⟩;rw[<-hb] at hix
   have hc0:s[k]'hlt=c:=by
    rw[cd s k hlt] at hc;exact ut.1 (by omega)
   have hbc:b=c.toNat:=by rw[hb,hc]
   have hcs:=ir x HB1.out;obtain⟨C,hC⟩:∃C,C=x.closed:=⟨_,rfl⟩;rw[<-hC] at hcs;have HCL:=lH hcs;have hres:=HRes.out;rw[hdr] at hres;by_cases hcc:b=44/\C=true
   ·obtain⟨hb44,hCt⟩:=hcc
    have hc44:c=44:=ut.1 (by
     have:(c.toNat:Int)=44:=by omega
     have h44:(44:UInt8).toNat=44:=rfl
     omega)
    subst hb44;have hxz:x=kG:=qI (by rw[<-hC];exact hCt)
    have hN:(pre++[(⟨s.extract f k,by simp;omega⟩:Tx)]).map gZ++gU x (s.extract (k+1) (k+1)).data.toList (s.data.toList.drop (k+1))=R:=by
     rw[<-hres,hc44,px (by rw[<-hC];exact hCt),kZ,uw,uR];rfl
    have HN:=lH hN
    have hsl:∀V:World,(Instr.slice 9 (.string s) (some (.int .i64 (f:Int))) (some (.int .i64 (k:Int))) none).run Tryz.prog V=.ok (.string (s.extract f k)) V:=fun V=>by
     rw[run_slice_string V 9 s .i64 .i64 (f:Int) (k:Int) Tryz.underlying9 (by omega) (by omega) (by omega),uc,uc]
    obtain⟨Y,hY1,hY2⟩:∃Y:Tx,Y=⟨s.extract f k,by simp;omega⟩/\s.extract f k=Y.1:=⟨⟨s.extract f k,by simp;omega⟩,rfl,rfl⟩;rw[hY2] at hsl;rw[<-hY1] at HN;obtain⟨fn,tmps,assign,body,hy,hRr⟩:=HY.out _ Y wr HJ.out (by have:=HPL.out;omega);have HRr:=lH hRr;subst hCt;clear hb hbc hc hdr hc0 hC hcs hres hc44 hY1 hY2 hRr hxz hN;gi_wp2_with fail
    refine⟨HFN.out _,?_⟩;refine(HW.out _ _ _ _ _ HCL.out).mono ?_;rintro e' W1 ⟨rfl,hW1⟩;subst hW1;gi_wp2_with fail
    refine HRr.out.mono ?_;rintro e W3 (⟨rfl,hJ3,hk3⟩|⟨rfl,hJx3,_⟩)
    ·have HJ3:=lH hJ3
     have HK3:=lH hk3;clear hJ3 hk3;gi_wp2_with fail
     go_roundw
     case rel=>exact⟨k+1,k+1,x,pre++[Y],hlt,nR _,by go_num,by go_num,HN.out,by have:=HPL.out;simp;omega,Nat.le_succ_of_le HXD.out,HJ3.out,dz HB1.out HK3.out HXX.out (Or.inl (by decide)),dz HB2.out HK3.out HG.out.2 (Or.inr HG.out.1)⟩
     case measure=>simp[intOf];omega
    ·have HJ3:=lH hJx3
     clear hJx3;gi_wp2_with fail
     refine ub (results_none rfl _ _ _) rfl ?_;exact⟨⟨_,rfl⟩,.inr ⟨_,trivial,HJ3.out⟩⟩
   ·have hne:(c==44)=false\/x.closed=false:=by
     rw[<-hC];cases C with
     | false=>exact Or.inr rfl
     | true=>
       left
       rw[tT];rintro rfl;exact hcc ⟨hbc,rfl⟩
    have hN:pre.map gZ++gU (x.see b) (s.extract f (k+1)).data.toList (s.data.toList.drop (k+1))=R:=by
     rw[<-hres,sp hne,qJ hf hlt,hc0,hbc]
    have HN:=lH hN;have HSE:=lH (jW x b HB1.out (nT HXD.out (nT hk hs)));have HXD2:Hid ((x.see b).d<=k+1):=nT (s7 x b) (Nat.succ_le_succ HXD.out)
    have hcases:(b==44)=false\/((b==44)=true/\C=false):=by
     cases h:(b==44) with
     | false=>exact Or.inl rfl
     | true=>
       right
       refine⟨rfl,?_⟩;cases C with
       | false=>rfl
       | true=>exact absurd ⟨eq_of_beq h,rfl⟩ hcc
    clear hb hbc hc hdr hc0 hC hcs hres hne hN hcc;rcases hcases with e1|⟨e1,rfl⟩
    ·gi_wp2_with fail
     refine⟨HFN.out _,?_⟩;gi_wp2_with fail
     refine⟨HFN.out _,?_⟩;refine(HW.out _ _ _ _ _ HSE.out).mono ?_;rintro e' W1 ⟨rfl,hb',ht'⟩;have HJ1:Hid (J pre W1):=HST.out _ _ _ HJ.out (ht'.mono (fun j _ hj=>.inl ⟨hj▸HB.out,x.row,(0,0),by subst hj;exact HB1.out⟩));have HB3:=lH hb';have HB4:=lH (HB2.out.touch ht' (fun e=>by have h1:=HB2.out;rw[e] at h1;exact absurd (h1.ne HB1.out (by decide)) (fun h=>h rfl)));clear hb' ht';gi_wp2_with fail
     go_roundw
     case rel=>exact⟨k+1,f,x.see b,pre,hlt,Nat.le_succ_of_le hf,rfl,by go_num,HN.out,HPL.out,HXD2.out,HJ1.out,HB3.out,HB4.out⟩
     case measure=>simp[intOf];omega
    ·gi_wp2_with fail
     refine⟨HFN.out _,?_⟩;refine(HW.out _ _ _ _ _ HCL.out).mono ?_;rintro e' W1 ⟨rfl,hW1⟩;subst hW1;gi_wp2_with fail
     refine⟨HFN.out _,?_⟩;refine(HW.out _ _ _ _ _ HSE.out).mono ?_;rintro e' W1 ⟨rfl,hb',ht'⟩;have HJ1:Hid (J pre W1):=HST.out _ _ _ HJ.out (ht'.mono (fun j _ hj=>.inl ⟨hj▸HB.out,x.row,(0,0),by subst hj;exact HB1.out⟩));have HB3:=lH hb';have HB4:=lH (HB2.out.touch ht' (fun e=>by have h1:=HB2.out;rw[e] at h1;exact absurd (h1.ne HB1.out (by decide)) (fun h=>h rfl)));clear hb' ht';gi_wp2_with fail
     go_roundw
     case rel=>exact⟨k+1,f,x.see b,pre,hlt,Nat.le_succ_of_le hf,rfl,by go_num,HN.out,HPL.out,HXD2.out,HJ1.out,HB3.out,HB4.out⟩
     case measure=>simp[intOf];omega
  ·have hk1:decide ((k:Int)<(s.size:Int))=false:=dF (by omega)
   have hkn:k=s.size:=by omega
   have hres:=HRes.out;rw[hkn,jE] at hres
   have hsl:∀V:World,(Instr.slice 9 (.string s) (some (.int .i64 (f:Int))) none none).run Tryz.prog V=.ok (.string (s.extract f s.size)) V:=fun V=>by
    rw[uK V 9 s Tryz.underlying9 .i64 (f:Int) (by omega) (by omega),uc]
   obtain⟨Y,hY1,hY2⟩:∃Y:Tx,Y=⟨s.extract f s.size,by simp;omega⟩/\s.extract f s.size=Y.1:=⟨⟨s.extract f s.size,by simp;omega⟩,rfl,rfl⟩
   have HN:Hid ((pre++[Y]).map gZ=R):=by
    show _=_;rw[<-hres,uw,hY1];rfl
   rw[hY2] at hsl;obtain⟨fn,tmps,assign,body,hy,hRr⟩:=HY.out _ Y wr HJ.out (by have:=HPL.out;omega);have HRr:=lH hRr;clear hres hY1 hY2 hRr hkn;gi_wp2_with fail
   refine HRr.out.mono ?_;rintro e W3 (⟨rfl,hJ3,hk3⟩|⟨rfl,hJx3,_⟩)
   ·have HJ3:=lH hJ3
    clear hJ3 hk3;gi_wp2_with fail
    go_end0
    exact⟨⟨_,rfl⟩,.inl ⟨_,HN.out,HJ3.out⟩⟩
   ·have HJ3:=lH hJx3
    clear hJx3;gi_wp2_with fail
    go_end0
    exact⟨⟨_,rfl⟩,.inr ⟨_,trivial,HJ3.out⟩⟩
theorem kX (F:Fence) (n:Nat) (hw:∀f args (W:World) R M,Calls Tryz.prog f args W R->CallsIn F M Tryz.prog f args W R) (hfn:∀f,F.fn f) (hro:F.round=none) (hn:1<=n) (B g NT Z:Nat) (KX:Nat->Prop) (s:ByteArray) (hs:s.size<=1000000) (w:World) (hB:B<=w.heap.size) (hg:g<NT) (hgX:¬KX g) (hXW:∀k,KX k->k<w.heap.size) (h1:ac w g #[.string s] 9):
 rR F n Tryz.prog 222 #[.pointer (some ⟨g,0,none⟩)] (fun x:Tx=>#[Value.string x.1]) (eF KX 9 NT Z) 222 B (fun ys=>ys.map gZ=gU kG [] s.data.toList) (fun _=>True) (s.size+1) w:=fun y J Jx W hW _ hJ _ hY h0=>
 oG F n hw hfn hro hn y B g NT Z KX s hs J Jx hY W hJ (nT hB hW.size) hg hgX (fun k hk=>uD (hXW k hk) hW.size) (h1.call hW) h0
end Go.Proofs.YthjbodpeckebiaaGreatDoor
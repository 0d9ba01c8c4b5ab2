/- Texts packed for one claim, 42 of 48: Sps. -/
import Derived.Test.YthjbodpeckebiaaGreatDoorRdnQ23
import Derived.Test.YthjbodpeckebiaaGreatDoorRdnQ6
import Derived.Test.YthjbodpeckebiaaGreatDoorRdnShelf
set_option maxRecDepth 100000
set_option maxHeartbeats 16000000
set_option linter.unusedSimpArgs false
set_option linter.unusedVariables false
-- Sps
namespace Go.Proofs.YthjbodpeckebiaaGreatDoor
open Go.RowKit Go.Shelf
attribute [local go_sem] Oper.semAt_some
theorem kI (s:ByteArray) (w:World):Calls Tryz.prog 223 #[.string s,.string ⟨#[44]⟩,.int .i64 0] w fun e w'=>e=.returned (.func (.func 243) #[] #[.pointer (some ⟨w.heap.size+1,0,none⟩),.pointer (some ⟨w.heap.size,0,none⟩),.pointer (some ⟨w.heap.size+2,0,none⟩)])/\w'=((w.alloc (.cells #[.string s] 9)).alloc (.cells #[.string ⟨#[44]⟩] 9)).alloc (.cells #[.int .i64 0] 3):=by
 go_enter Tryz.func223,Tryz.ntmps223
 go_wp2_with fail
 go_ret;exact⟨rfl,rfl⟩
theorem j7 (s:ByteArray) (w:World):Calls Tryz.prog 188 #[.string s,.string ⟨#[44]⟩] w fun e w'=>e=.returned (.func (.func 243) #[] #[.pointer (some ⟨w.heap.size+1,0,none⟩),.pointer (some ⟨w.heap.size,0,none⟩),.pointer (some ⟨w.heap.size+2,0,none⟩)])/\w'=((w.alloc (.cells #[.string s] 9)).alloc (.cells #[.string ⟨#[44]⟩] 9)).alloc (.cells #[.int .i64 0] 3):=by
 go_enter Tryz.func188,Tryz.ntmps188
 go_wp2_with (go_at_call 223;refine(kI s _).mono ?_;rintro e' w' ⟨rfl,hw⟩)
 go_ret;exact⟨rfl,rfl⟩
theorem sy (s:ByteArray) (a:Nat):(s.extract a s.size).data.toList=s.data.toList.drop a:=by
 rw[Lib.extract_data,uu];rw[t7];simp
theorem iK:∀(l a:List UInt8),(∀k:Nat,l[k]?≠some 44)->bC a l=[a++l]
 | [],a,_=>by rw[bC,List.append_nil]
 | c :: l,a,h=>by
   have h0:c≠44:=fun e=>h 0 (by rw[e];rfl);rw[bC,if_neg h0,iK l (a++[c]) (fun k=>h (k+1)),uR];rfl
theorem iL:∀(l a:List UInt8) (o:Nat),l[o]? = some 44->(∀k:Nat,k<o->l[k]?≠some 44)->bC a l=(a++l.take o) :: bC [] (l.drop (o+1))
 | [],a,o,h,_=>by simp at h
 | c :: l,a,0,h,_=>by
   have hc:c=44:=by simpa using h
   rw[bC,if_pos hc];simp
 | c :: l,a,o+1,h,hm=>by
   have h0:c≠44:=fun e=>hm 0 (by omega) (by rw[e];rfl);rw[bC,if_neg h0,iL l (a++[c]) o (by simpa using h) (fun k hk=>by have:=hm (k+1) (by omega);simpa using this)];simp
def kg (w:World) (g:Nat):Nat:=match w.cell? ⟨g,0,none⟩ with
 | some (.string s)=>s.size
 | _=>0
theorem im {w:World} {g:Nat} {s:ByteArray} (h:ac w g #[.string s] 9):kg w g=s.size:=by
 unfold kg;rw[h.cell 0];rfl
theorem nW {w:World} {g:Nat} {x:ByteArray} (h:ac w g #[.string x] 9) (y:ByteArray):ac (w.setCell ⟨g,0,none⟩ (.string y)) g #[.string y] 9:=by
 have:=h.set 0 (.string y);simpa using this
theorem sI (F:Fence) (n:Nat) (hw:∀f args (W:World) R M,Calls Tryz.prog f args W R->CallsIn F M Tryz.prog f args W R) (hfn:∀f,F.fn f) (hro:F.round=none) (hn:1<=n) (y B g1 g2 g3 NT Z:Nat) (KX:Nat->Prop) (s:ByteArray) (hs:s.size<=1000000) (J Jx:List Tx->World->Prop)
 (
  hY:∀pre x W,J pre W->pre.length<s.size+1->YieldAt F (n - 1) Tryz.prog y #[.string x.1] W fun e W'=>
  (e=.returned (.bool true)/\J (pre++[x]) W'/\eF KX 222 NT Z W W')\/(e=.returned (.bool false)/\Jx (pre++[x]) W'/\eF KX 222 NT Z W W'))
 (W:World) (hJ:az 9 B W.heap.size J) (hB:B<=g2) (hgX:¬KX g1/\¬KX g2/\¬KX g3) (h12:g1≠g2) (k1:ac W g1 #[.string ⟨#[44]⟩] 9) (k2:ac W g2 #[.string s] 9) (k3:ac W g3 #[.int .i64 0] 3) (h0:J [] W):
 CallsIn F n Tryz.prog 243 #[.func (.yield y) #[] #[],.pointer (some ⟨g1,0,none⟩),.pointer (some ⟨g2,0,none⟩),.pointer (some ⟨g3,0,none⟩)] W fun e W'=>(∃v,e=.returned v)/\
  ((∃ys:List Tx,ys.map gZ=bC [] s.data.toList/\J ys W')\/(∃pre:List Tx,(∃rest,pre.map gZ++rest=bC [] s.data.toList)/\Jx pre W')):=by
 have HW:=lH hw;have HFN:=lH hfn;have HY:=lH hY;have HST:=lH hJ;have HJ0:=lH h0;have HB:=lH hB;have HG:=lH hgX;have H12:=lH h12;have K1:=lH k1;have K2:=lH k2;have K3:=lH k3;have q1:=k1.cell 0;simp at q1;have hls1:(⟨#[44]⟩:ByteArray).size=1:=rfl;obtain⟨R,hR⟩:∃R,R=bC [] s.data.toList:=⟨_,rfl⟩;have HR:=lH hR;rw[<-hR];clear hw hfn hY hJ h0 hB hgX h12 k1 k2 k3 hR;refine callsIn_of_wp Tryz.func243 rfl (HFN.out _) ?_ hro;simp only[Tryz.ntmps243,List.size_toArray,t4,uT,Nat.reduceAdd,Nat.reduceSub,Array.replicate_succ,Array.replicate_zero,List.push_toArray,List.append_toArray,vm,uS];gi_wp2_with fail
 gi_loopw [7,8] (fun _ _ wr=>∃(S:ByteArray) (pre:List Tx),S.size<=1000000/\pre.map gZ++bC [] S.data.toList=R/\pre.length+S.size<=s.size/\J pre wr/\ac wr g1 #[.string ⟨#[44]⟩] 9/\ac wr g2 #[.string S] 9/\ac wr g3 #[.int .i64 0] 3)
  (fun _ _ wr=>kg wr g2)
 case atStart=>exact⟨s,[],hs,by rw[HR.out];rfl,by simp,HJ0.out,K1.out,K2.out,K3.out⟩
 case round=>
  obtain⟨S,pre,hS,hres,hpl,hJs,hb1,hb2,hb3⟩:=hrel;have HRes:=lH hres;have HPL:=lH hpl;have HJ:=lH hJs;have HB1:=lH hb1;have HB2:=lH hb2;have HB3:=lH hb3;have q1:=hb1.cell 0;have q2:=hb2.cell 0;have q3:=hb3.cell 0;have f2:=hb2.froz 0;simp at q1 q2 q3;clear hres hpl hJs hb1 hb2 hb3;have HIX:=lH (Tryz.strings_Index_one S 44 wr);have hix:=Lib.indexByte_ge S.data.toList 44;obtain⟨i,hi⟩:∃i,i=Lib.indexByte S.data.toList 44:=⟨_,rfl⟩;rw[<-hi] at HIX hix;have hSl:S.data.toList.length=S.size:=by simp
  by_cases hneg:i<0
  ·have hi1:i=-1:=by omega
   have hno:=Lib.indexByte_none (hi.symm.trans hi1)
   have hN:R=(pre++[(⟨S,hS⟩:Tx)]).map gZ:=by
    rw[<-HRes.out,iK _ _ hno,uw];rfl
   have HN:=lH hN;obtain⟨Y,hY1,hY2⟩:∃Y:Tx,Y=⟨S,hS⟩/\S=Y.1:=⟨⟨S,hS⟩,rfl,rfl⟩;rw[<-hY1] at HN;rw[hY2] at q2;obtain⟨fn,tmps,assign,body,hy,hRr⟩:=HY.out _ Y wr HJ.out (by have:=HPL.out;omega);have HRr:=lH hRr;subst hi1;clear hN hi hno hRr hY1 hneg hix;gi_wp2_with fail
   refine⟨HFN.out _,?_⟩;rw[hY2] at HIX;refine(HW.out _ _ _ _ _ HIX.out).mono ?_;rintro e' W1 ⟨rfl,hW1⟩;subst hW1;gi_wp2_with fail
   refine HRr.out.mono ?_;rintro e W3 (⟨rfl,hJ3,hk3⟩|⟨rfl,hJx3,_⟩)
   ·have HJ3:=lH hJ3
    clear hJ3 hk3;gi_wp2_with fail
    go_end0
    exact⟨⟨_,rfl⟩,.inl ⟨_,HN.out.symm,HJ3.out⟩⟩
   ·have HJ3:=lH hJx3
    clear hJx3;gi_wp2_with fail
    go_end0
    exact⟨⟨_,rfl⟩,.inr ⟨_,⟨[],by rw[HN.out,List.append_nil]⟩,HJ3.out⟩⟩
  ·obtain⟨o,rfl⟩:∃o:Nat,i=o:=⟨i.toNat,by omega⟩
   obtain⟨ho1,ho2⟩:=Lib.indexByte_some hi.symm
   have hol:o<S.size:=by
    rcases uG o S.size with h|h
    ·exact h
    ·rw[uH (by omega)] at ho1
     cases ho1
   have hN:(pre++[(⟨S.extract 0 o,by simp;omega⟩:Tx)]).map gZ++bC [] (S.extract (o+1) S.size).data.toList=R:=by
    rw[<-HRes.out,iL _ _ o ho1 ho2,uw,uR,sy S (o+1)];congr 1
    show [(S.extract 0 o).data.toList]++_=_;rw[Lib.extract_data];simp
   have HN:=lH hN
   have hsl:∀V:World,(Instr.slice 9 (.string S) none (some (.int .i64 (o:Int))) none).run Tryz.prog V=.ok (.string (S.extract 0 o)) V:=fun V=>by
    rw[run_slice_string_h V 9 S Tryz.underlying9 .i64 (o:Int) (by omega) (by omega),uc]
   have hsl2:∀V:World,(Instr.slice 9 (.string S) (some (.int .i64 ((o:Int)+1))) none none).run Tryz.prog V=.ok (.string (S.extract (o+1) S.size)) V:=fun V=>by
    rw[uK V 9 S Tryz.underlying9 .i64 ((o:Int)+1) (by omega) (by omega)];rfl
   obtain⟨Y,hY1,hY2⟩:∃Y:Tx,Y=⟨S.extract 0 o,by simp;omega⟩/\S.extract 0 o=Y.1:=⟨⟨S.extract 0 o,by simp;omega⟩,rfl,rfl⟩;rw[<-hY1] at HN;rw[hY2] at hsl;obtain⟨fn,tmps,assign,body,hy,hRr⟩:=HY.out _ Y wr HJ.out (by have:=HPL.out;omega);have HRr:=lH hRr;have hoi:(o:Int)<=1000000:=by omega
   have hge:decide ((o:Int)<0)=false:=dF (by omega);have HSR:Hid ((S.extract (o+1) S.size).size+(o+1)=S.size):=by show _=_;simp;omega
   clear hN hi hRr hY1 hneg hix ho1 ho2;gi_wp2_with fail
   refine⟨HFN.out _,?_⟩;refine(HW.out _ _ _ _ _ HIX.out).mono ?_;rintro e' W1 ⟨rfl,hW1⟩;subst hW1;gi_wp2_with fail
   refine HRr.out.mono ?_;rintro e W3 (⟨rfl,hJ3,hk3⟩|⟨rfl,hJx3,_⟩)
   ·have HJ3:=lH hJ3
    have HC1:=lH (dz HB1.out hk3 HG.out.1 (Or.inl (by decide)));have HC2:=lH (dz HB2.out hk3 HG.out.2.1 (Or.inl (by decide)));have HC3:=lH (dz HB3.out hk3 HG.out.2.2 (Or.inl (by decide)));have r1:=HC1.out.cell 0;have r2:=HC2.out.cell 0;have e2:=HC2.out.froz 0;simp at r1 r2;clear hJ3 hk3 q1 q2 q3 f2;gi_wp2_with fail
    go_roundw
    case rel=>
     refine⟨S.extract (o+1) S.size,pre++[Y],by have:=HSR.out;omega,HN.out,by have h1:=HSR.out;have h2:=HPL.out;simp at h1 ⊢;omega,HST.out _ _ _ HJ3.out ((aa.setCell (P:=fun k=>k=g2) (aa.refl _ _) rfl _).mono (fun j _ hj=>.inl ⟨hj▸HB.out,_,_,by subst hj;exact HC2.out⟩)),HC1.out.far (p:=⟨g2,0,none⟩) H12.out _,nW HC2.out _,HC3.out.far (p:=⟨g2,0,none⟩) (HC3.out.ne HC2.out (by decide)) _⟩
    case measure=>
     rw[im (nW HC2.out _),im HB2.out];have:=HSR.out;omega
   ·have HJ3:=lH hJx3
    clear hJx3;gi_wp2_with fail
    refine ub (results_none rfl _ _ _) rfl ?_;exact⟨⟨_,rfl⟩,.inr ⟨_,⟨_,HN.out⟩,HJ3.out⟩⟩
theorem pX (F:Fence) (n:Nat) (hw:∀f args (W:World) R M,Calls Tryz.prog f args W R->CallsIn F M Tryz.prog f args W R) (hfn:∀f,F.fn f) (hro:F.round=none) (hn:1<=n) (B g1 g2 g3 NT Z:Nat) (KX:Nat->Prop) (s:ByteArray) (hs:s.size<=1000000) (w:World) (hB:B<=g2) (hgX:¬KX g1/\¬KX g2/\¬KX g3) (h12:g1≠g2) (k1:ac w g1 #[.string ⟨#[44]⟩] 9) (k2:ac w g2 #[.string s] 9) (k3:ac w g3 #[.int .i64 0] 3):
 rR F n Tryz.prog 243 #[.pointer (some ⟨g1,0,none⟩),.pointer (some ⟨g2,0,none⟩),.pointer (some ⟨g3,0,none⟩)] (fun x:Tx=>#[Value.string x.1]) (eF KX 222 NT Z) 9 B (fun ys=>ys.map gZ=bC [] s.data.toList) (fun pre=>∃rest,pre.map gZ++rest=bC [] s.data.toList) (s.size+1) w:=fun y J Jx W hW _ hJ _ hY h0=>
 sI F n hw hfn hro hn y B g1 g2 g3 NT Z KX s hs J Jx hY W hJ hB hgX h12 (k1.call hW) (k2.call hW) (k3.call hW) h0
end Go.Proofs.YthjbodpeckebiaaGreatDoor
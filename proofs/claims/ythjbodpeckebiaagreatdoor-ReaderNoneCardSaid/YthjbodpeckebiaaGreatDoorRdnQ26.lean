/- Texts packed for one claim, 26 of 48: Hdr Cur Quo Val Pars. -/
import Derived.Test.YthjbodpeckebiaaGreatDoorRdnQ25
import Derived.Test.YthjbodpeckebiaaGreatDoorRdnQ6
import Derived.Lib.Join
import Derived.Test.YthjbodpeckebiaaGreatDoorRdnShelf
set_option maxRecDepth 100000
set_option maxHeartbeats 16000000
set_option linter.unusedSimpArgs false
set_option linter.unusedVariables false
-- Hdr
namespace Go.Proofs.YthjbodpeckebiaaGreatDoor
open Go.RowKit
theorem pb (A:Option Addr) (len cap:Nat) (w:World):Calls Tryz.prog 141 #[.slice A len cap] w fun e w'=>e=.returned (.func (.func 175) #[] #[.pointer (some ⟨w.heap.size,0,none⟩)])/\w'=w.alloc (.cells #[.slice A len cap] 22):=by
 go_enter Tryz.func141,Tryz.ntmps141
 go_wp2_with fail
 go_ret;exact⟨rfl,rfl⟩
theorem aw {w w':World} (h:∃m,w'=w.drewN m):Below w.heap.size w w':=by
 obtain⟨m,rfl⟩:=h;exact bJ _ _
theorem lB (a n v:ByteArray) (g:Nat) (w:World) (ha:a.size<=1000000) (hn:n.size<=1000000) (h:ac w g #[.string n,.string v] 95):
 Calls Tryz.prog 177 #[.string a,.pointer (some ⟨g,0,none⟩)] w fun e w'=>e=.returned (.bool (decide (aS a=aS n)))/\Below w.heap.size w w':=by
 have c0:=h.cell 0;simp at c0;have HF:=lH (qM a n ha hn w);clear h;go_enter Tryz.func177,Tryz.ntmps177
 go_wp2_with (go_at_call 178;refine HF.out.mono ?_;rintro e' w' ⟨rfl,hb⟩;have HB:=lH (aw hb);clear hb)
 go_ret;exact⟨rfl,HB.out⟩
theorem mG (a:ByteArray) (p:Bool) (b1 g:Nat) (w:World) (hc:w.cell? ⟨b1,0,none⟩=some (.string a)) (H:∀W,Below w.heap.size w W->Calls Tryz.prog 177 #[.string a,.pointer (some ⟨g,0,none⟩)] W fun e w'=>e=.returned (.bool p)/\Below W.heap.size W w'):
 Calls Tryz.prog 214 #[.slice (some ⟨b1,0,none⟩) 1 1,.func (.func 177) #[] #[.pointer (some ⟨g,0,none⟩)]] w fun e w'=>e=.returned (.int .i64 (if p=true then 0 else -1))/\Below w.heap.size w w':=by
 have HC:=lH hc;have HH:=lH H;have hblt:=t8 w _ hc;have HBL:=lH hblt;clear hc H hblt;go_enter Tryz.func214,Tryz.ntmps214
 go_wp2_with fail
 go_loopw [8] (fun i wr=>∃k:Nat,k<=1/\i=.int .i64 k/\(k=1->p=false)/\Below w.heap.size w wr) (fun i _=>1 - (intOf i).toNat)
 case atStart=>exact⟨0,tX _,rfl,(fun h=>absurd h (by decide)),tU _ _⟩
 case round=>
  obtain⟨k,hk,rfl,hp,hb⟩:=hrel;have HB:=lH hb;have HP:=lH hp;have c0:=((dY hb) b1 0 HBL.out).trans HC.out;clear hb hp;rcases (by omega:k=0\/k=1) with rfl|rfl
  ·cases p with
   | true=>
     go_wp2_with (go_at_call 177;refine(HH.out _ HB.out).mono ?_;rintro e' w' ⟨rfl,hb⟩;have HB':=lH (HB.out.trans (hb.mono HB.out.size));clear hb)
     go_ret;exact⟨rfl,HB'.out⟩
   | false=>
     go_wp2_with (go_at_call 177;refine(HH.out _ HB.out).mono ?_;rintro e' w' ⟨rfl,hb⟩;have HB':=lH (HB.out.trans (hb.mono HB.out.size));clear hb)
     go_roundw
     case rel=>exact⟨1,nR _,by go_num,by first|exact fun _=>rfl|trivial,HB'.out⟩
     case measure=>simp[intOf]
  ·have hp:=HP.out rfl
   subst hp;go_wp2_with fail
   go_ret;exact⟨rfl,HB.out⟩
theorem jb (a:ByteArray) (p:Bool) (b1 g:Nat) (w:World) (hc:w.cell? ⟨b1,0,none⟩=some (.string a)) (H:∀W,Below w.heap.size w W->Calls Tryz.prog 177 #[.string a,.pointer (some ⟨g,0,none⟩)] W fun e w'=>e=.returned (.bool p)/\Below W.heap.size W w'):
 Calls Tryz.prog 176 #[.slice (some ⟨b1,0,none⟩) 1 1,.func (.func 177) #[] #[.pointer (some ⟨g,0,none⟩)]] w fun e w'=>e=.returned (.bool p)/\Below w.heap.size w w':=by
 have HI:=lH (mG a p b1 g w hc H);clear hc H;cases p
 all_goals
  go_enter Tryz.func176,Tryz.ntmps176
  go_wp2_with (go_at_call 214;refine HI.out.mono ?_;rintro e' w' ⟨rfl,hb⟩;have HB:=lH hb;clear hb)
  go_ret;exact⟨rfl,HB.out⟩
theorem tw (a n v:ByteArray) (b1 b2:Nat) (w:World) (ha:a.size<=1000000) (hn:n.size<=1000000) (h1:w.cell? ⟨b1,0,none⟩=some (.string a)) (h2:w.cell? ⟨b2,0,none⟩=some (.slice (some ⟨b1,0,none⟩) 1 1)):
 Calls Tryz.prog 175 #[.agg #[.string n,.string v],.pointer (some ⟨b2,0,none⟩)] w fun e w'=>e=.returned (.bool (decide (aS n=aS a)))/\Below w.heap.size w w':=by
 have hb1:=t8 w _ h1;have hb2:=t8 w _ h2;have HBW:=lH ((tU w.heap.size w).alloc (nR _) (.cells #[.string n,.string v] 95));have HK:=lH (ac.new w #[.string n,.string v] 95);have c2:=((dY HBW.out) b2 0 hb2).trans h2;have hcf:=jb a (decide (aS a=aS n)) b1 w.heap.size (w.alloc (.cells #[.string n,.string v] 95)) (((dY HBW.out) b1 0 hb1).trans h1) (fun W hW=>lB a n v w.heap.size W ha hn (HK.out.call hW));have he:decide (aS a=aS n)=decide (aS n=aS a):=decide_eq_decide.2 eq_comm;rw[he] at hcf;have HCF:=lH hcf;obtain⟨p,hp⟩:∃p,p=decide (aS n=aS a):=⟨_,rfl⟩;rw[<-hp] at HCF ⊢;clear h1 h2 hcf he hp hb1 hb2;go_enter Tryz.func175,Tryz.ntmps175
 go_wp2_with (go_at_call 176;refine HCF.out.mono ?_;rintro e' w' ⟨rfl,hb⟩;have HB:=lH (cb hb);clear hb)
 go_ret;exact⟨rfl,HB.out⟩
theorem od (fs:List Fd) (name:ByteArray) (k:Nat) (h:k<fs.length):aJ (fs.take (k+1)) name=if decide (aS fs[k].1=aS name)=true then aJ (fs.take k) name++[fs[k].2] else aJ (fs.take k) name:=by
 unfold aJ;rw[uj h,List.filter_append,uw,List.filter_cons];split
 ·rfl
 ·simp
theorem ia (fs:List Fd) (name:ByteArray):(aJ fs name).length<=fs.length:=by
 unfold aJ;rw[List.length_map];exact List.length_filter_le _ _
theorem fu (fs:List Fd) (f:Value) (name:ByteArray) (w:World) (h:bL w f fs) (hl:fs.length<=1000000) (hs:∀g∈fs,g.1.size<=1000000) (hn:name.size<=1000000):
 Calls Tryz.prog 109 #[f,.string name] w fun e w'=>∃v,e=.returned v/\ao w' w.heap.size v (aJ fs name)/\Below w.heap.size w w':=by
 obtain⟨p,c,rfl,hc⟩:=h;have HC:=lH hc;have HS:=lH hs;have HBW:=lH ((tU w.heap.size w).alloc (nR _) (.cells #[.string name] 9));have KN:=lH (ac.new w #[.string name] 9);obtain⟨n,hnl⟩:∃n,n=fs.length:=⟨_,rfl⟩;have HN:=lH hnl;rw[<-hnl] at hl ⊢;clear hc hs hnl;go_enter Tryz.func109,Tryz.ntmps109
 go_wp2_with (go_at_call 141;refine(pb _ _ _ _).mono ?_;rintro e' w' ⟨rfl,hw⟩;have KN1:Hid (ac w' w.heap.size #[.string name] 9):=(by rw[hw];exact KN.out.alloc _);have KN2:Hid (ac w' (w.heap.size+1) #[.slice (some ⟨w.heap.size,0,none⟩) 1 1] 22):=(by rw[hw];exact ac.new' (by simp));have HB1:Hid (Below w.heap.size w w'):=(by rw[hw];exact HBW.out.alloc (by simp) _);have HZ1:Hid (w'.heap.size=w.heap.size+2):=(by show _=_;rw[hw];simp);clear hw)
 have HZW:Hid (w.heap.size<=w'.heap.size):=HB1.out.size;go_loopw [6,14] (fun u6 i wr=>∃k:Nat,k<=n/\i=.int .i64 k/\ao wr (w.heap.size+2) u6 (aJ (fs.take k) name)/\Below (w.heap.size+2) w' wr) (fun _ i _=>n - (intOf i).toNat)
 case atStart=>exact⟨0,tX _,rfl,ao.start _ _,tU _ _⟩
 case round=>
  obtain⟨k,hk,rfl,ho,hb⟩:=hrel;have HO:=lH ho;have HB:=lH hb;have HBw:Hid (Below w.heap.size w wr):=HB1.out.trans (hb.mono (by omega));have HSZ:Hid (w.heap.size+2<=wr.heap.size):=by show _<=_;have:=hb.size;have:=HZ1.out;omega
  clear ho hb;by_cases hlt:k<n
  ·have hk1:decide ((k:Int)<(n:Int))=true:=dT (by omega)
   obtain⟨b,off,hp,c1,c2⟩:=HC.out k (by rw[<-HN.out];exact hlt);subst hp;obtain⟨x,hx⟩:∃x,x=fs[k]'(by rw[<-HN.out];exact hlt):=⟨_,rfl⟩;rw[<-hx] at c1 c2;have hblt:=t8 w _ c1;have c1:=((dY HBw.out) b _ hblt).trans c1;have c2:=((dY HBw.out) b _ hblt).trans c2;rw[show off+2*k=off+k*2 by omega] at c1 c2;obtain⟨x1,x2⟩:=x;dsimp only at c1 c2
   have hx1:x1.size<=1000000:=HS.out (x1,x2) (by rw[hx];exact List.getElem_mem _)
   have HAT:Hid (aJ (fs.take (k+1)) name=if decide (aS x1=aS name)=true then aJ (fs.take k) name++[x2] else aJ (fs.take k) name):=by
    show _=_;rw[od fs name k (by rw[<-HN.out];exact hlt),<-hx]
   have KN3:=lH (KN1.out.below HB.out (by omega));have KN4:=lH (KN2.out.below HB.out (by omega))
   have HLN:Hid ((aJ (fs.take k) name).length<=1000000):=by
    show _<=_;have h1:=ia (fs.take k) name;rw[List.length_take] at h1;omega
   have hk0:(0:Int)<=(k:Int):=by omega
   have hki:(k:Int)<(n:Int):=by omega
   clear hx hblt;have HIS:=lH (tw name x1 x2 w.heap.size (w.heap.size+1) (wr.alloc (.cells #[.string x1,.string x2] 95)) hn hx1 ((KN3.out.alloc _).cell 0) ((KN4.out.alloc _).cell 0));have HKX:=lH (ac.new wr #[.string x1,.string x2] 95);have HAL:=lH ((tU wr.heap.size wr).alloc (nR _) (.cells #[.string x1,.string x2] 95));cases hd:decide (aS x1=aS name) with
   | true=>
     rw[hd] at HIS HAT;have HAT2:Hid (aJ (fs.take (k+1)) name=aJ (fs.take k) name++[x2]):=HAT.out;clear hd HAT
     go_wp2_with (first
      | (go_at_call 175;refine HIS.out.mono ?_;rintro e3 w3 ⟨rfl,hb3⟩;have K5:=lH (HKX.out.call hb3);have q1:=K5.out.cell 1;simp at q1;have HO3:=lH ((HO.out.alloc (.cells #[.string x1,.string x2] 95)).call hb3);have HB3:Hid (Below (w.heap.size+2) w' w3):=(HB.out.trans (((tU _ wr).alloc HSZ.out _).trans (hb3.mono (nT HSZ.out HAL.out.size))));have HZ3:Hid (w.heap.size+2<=w3.heap.size):=(nT HSZ.out (nT HAL.out.size hb3.size));clear hb3)
      | (at_builtin;refine dR rfl _ _ rfl rfl HO3.out x2 rfl HLN.out HZ3.out ?_;intro p4 c4 w4 ho4 _ hb4;have HO4:=lH ho4;have HB4:=lH (HB3.out.trans hb4);clear ho4 hb4))
     go_roundw
     case rel=>exact⟨k+1,hlt,by go_num,by rw[HAT2.out];exact HO4.out,HB4.out⟩
     case measure=>simp[intOf];omega
   | false=>
     rw[hd] at HIS HAT;have HAT2:Hid (aJ (fs.take (k+1)) name=aJ (fs.take k) name):=HAT.out;clear hd HAT;go_wp2_with (go_at_call 175;refine HIS.out.mono ?_;rintro e3 w3 ⟨rfl,hb3⟩;have HO3:=lH ((HO.out.alloc (.cells #[.string x1,.string x2] 95)).call hb3);have HB3:Hid (Below (w.heap.size+2) w' w3):=(HB.out.trans (((tU _ wr).alloc HSZ.out _).trans (hb3.mono (nT HSZ.out HAL.out.size))));clear hb3)
     go_roundw
     case rel=>exact⟨k+1,hlt,by go_num,by rw[HAT2.out];exact HO3.out,HB3.out⟩
     case measure=>simp[intOf];omega
  ·have hk1:decide ((k:Int)<(n:Int))=false:=dF (by omega)
   have hkn:k=n:=by omega
   have HT:Hid (fs.take k=fs):=by show _=_;rw[hkn,HN.out,uW]
   clear hkn;go_wp2_with fail
   go_ret;exact⟨_,rfl,by rw[<-HT.out];exact HO.out.lower (uv _ 2),HBw.out⟩
theorem mz (fs:List Fd) (f:Value) (name:ByteArray) (w:World) (h:bL w f fs) (hl:fs.length<=1000000) (hs:∀g∈fs,g.1.size<=1000000) (hn:name.size<=1000000):
 Calls Tryz.prog 114 #[f,.string name] w fun e w'=>e=.returned (.int .i64 ((aJ fs name).length:Int))/\Below w.heap.size w w':=by
 have HA:=lH (fu fs f name w h hl hs hn);obtain⟨n,hnn⟩:∃n,n=(aJ fs name).length:=⟨_,rfl⟩;have HNN:=lH hnn;rw[<-hnn];clear h hl hs hn hnn;go_enter Tryz.func114,Tryz.ntmps114
 go_wp2_with (go_at_call 109;refine HA.out.mono ?_;rintro e1 w1 ⟨v1,rfl,ho,hb⟩;obtain⟨p1,c1,rfl⟩:=ho.shape;rw[<-HNN.out];have HB:=lH hb;clear ho hb)
 go_ret;exact⟨rfl,HB.out⟩
theorem jJ:∀l:List ByteArray,(⟨(Lib.join (l.map (·.data.toList)) [44,32]).toArray⟩:ByteArray)=bB l
 | []=>rfl
 | [s]=>by
   apply cL;show (Lib.join [s.data.toList] [44,32])=s.data.toList;rw[Lib.join_one]
 | s :: t :: l=>by
   apply cL;have h:=uF (fun b:ByteArray=>b.data.toList) (jJ (t :: l));simp only at h;have e:bB (s :: t :: l)=s++⟨#[44,32]⟩++bB (t :: l):=rfl;rw[e];simp only[ByteArray.toList_data_append,List.map_cons] at h ⊢;rw[<-h];show Lib.join (s.data.toList :: t.data.toList :: l.map (·.data.toList)) [44,32]=_;simp[Lib.join,List.intercalate]
theorem iA:∀(l:List ByteArray) (B:Nat),(∀s∈l,s.size<=B)->(bB l).size<=l.length*(B+2)
 | [],_,_=>tX _
 | [s],B,h=>by
   have:=h s (by simp);show s.size<=_;simp;omega
 | s :: t :: l,B,h=>by
   have h1:=iA (t :: l) B (fun x hx=>h x (by simp[hx]));have h2:=h s (by simp);have e:bB (s :: t :: l)=s++⟨#[44,32]⟩++bB (t :: l):=rfl;rw[e,uV,uV,t4,Nat.succ_mul];have h3:(⟨#[44,32]⟩:ByteArray).size=2:=rfl;omega
theorem jO {B:Nat} {v:Value} {l:List ByteArray} (w:World) (h:ao w B v l) (hl:l.length<=100000) (hs:(bB l).size<=140737488355328):
 Calls Tryz.prog 184 #[v] w fun e w'=>e=.returned (.string (bB l))/\Below w.heap.size w w':=by
 have HJ:Hid (Calls Tryz.prog 219 #[v,.string ⟨#[44,32]⟩] w fun e w'=>e=.returned (.string (bB l))/\Below w.heap.size w w'):=by
  show Calls _ _ _ _ _;have hj:=jJ l;by_cases h0:l.length=0
  ·obtain rfl:l=[]:=t9 h0
   obtain⟨p,c,rfl⟩:=h.shape;exact(Tryz.strings_Join_none p c ⟨#[44,32]⟩ w).mono fun e w' h=>⟨h.1,h.2▸tU _ _⟩
  ·obtain⟨g,cap,cur,rfl,hB,hg,hcl,htk⟩:=h.block (by omega)
   have hcap:=h.cap;have hc:=h.cell
   have hlen:(Lib.join (l.map (·.data.toList)) [44,32]).length=(bB l).size:=by
    rw[<-hj];show _=(Lib.join (l.map (·.data.toList)) [44,32]).toArray.size;simp
   have hjn:=Tryz.strings_Join g 0 cap l ⟨#[44,32]⟩ w (fun j x hx=>by
    have hjl:j<l.length:=(List.getElem?_eq_some_iff.1 hx).1
    rw[uJ,hc j hjl,<-(List.getElem?_eq_some_iff.1 hx).2]) (ua.1 hg).1 (by omega) hcap (by show (Lib.join (l.map (·.data.toList)) [44,32]).length<=_;omega)
   have e:(⟨#[44,32]⟩:ByteArray).data.toList=[44,32]:=rfl;rw[e,hj] at hjn;exact hjn
 clear h hl hs;go_enter Tryz.func184,Tryz.ntmps184
 go_wp2_with (go_at_call 219;refine HJ.out.mono ?_;rintro e1 w1 ⟨rfl,hb⟩;have HB:=lH hb;clear hb)
 go_ret;exact⟨rfl,HB.out⟩
theorem oT (fs:List Fd) (f:Value) (name:ByteArray) (w:World) (h:bL w f fs) (hl:fs.length<=100000) (hs:∀g∈fs,g.1.size<=1000000) (hs2:∀g∈fs,g.2.size<=1000000) (hn:name.size<=1000000):
 Calls Tryz.prog 146 #[f,.string name] w fun e w'=>e=.returned (.tuple #[.string (bB (aJ fs name)),.bool (!(aJ fs name).isEmpty)])/\Below w.heap.size w w':=by
 have HA:=lH (fu fs f name w h (by omega) hs hn);have hlen:=ia fs name;have HL:Hid ((aJ fs name).length<=100000):=by show _<=_;omega
 have HSZ:Hid ((bB (aJ fs name)).size<=140737488355328):=by
  show _<=_
  have h1:=iA (aJ fs name) 1000000 (fun s hs=>by
   unfold aJ at hs;obtain⟨q,hq,rfl⟩:=List.mem_map.1 hs
   exact hs2 q (List.mem_filter.1 hq).1)
  have h2:(aJ fs name).length*(1000000+2)<=100000*(1000000+2):=Nat.mul_le_mul_right _ (by omega);omega
 obtain⟨A,hA⟩:∃A,A=aJ fs name:=⟨_,rfl⟩;rw[<-hA] at HA HL HSZ ⊢;obtain⟨J,hJ⟩:∃J,J=bB A:=⟨_,rfl⟩;have HJ:=lH hJ;rw[<-hJ];clear h hl hs hs2 hn hlen hA hJ;rcases (by cases A with|nil=>exact Or.inl ⟨rfl,rfl⟩|cons x l=>exact Or.inr ⟨l.length,rfl,rfl⟩:(A.isEmpty=true/\A.length=0)\/∃m,A.isEmpty=false/\A.length=m+1) with ⟨he,hl⟩|⟨m,he,hl⟩
 ·rw[he]
  have HLN:=lH hl;clear he hl;go_enter Tryz.func146,Tryz.ntmps146
  go_wp2_with (first
   | (go_at_call 109;refine HA.out.mono ?_;rintro e1 w1 ⟨v1,rfl,ho,hb⟩;obtain⟨p1,c1,rfl⟩:=ho.shape;have HLJ:=lH (jO w1 ho HL.out HSZ.out);rw[<-HJ.out,HLN.out] at HLJ;rw[HLN.out];have HB:=lH hb;clear ho hb)
   | (go_at_call 184;refine HLJ.out.mono ?_;rintro e2 w2 ⟨rfl,hb⟩;have HB2:=lH (HB.out.trans (hb.mono HB.out.size));clear hb))
  go_ret2
  exact⟨rfl,HB2.out⟩
 ·rw[he]
  have HLN:=lH hl;have hm:decide ((0:Int)<((m+1:Nat):Int))=true:=dT (by omega);clear he hl;go_enter Tryz.func146,Tryz.ntmps146
  go_wp2_with (first
   | (go_at_call 109;refine HA.out.mono ?_;rintro e1 w1 ⟨v1,rfl,ho,hb⟩;obtain⟨p1,c1,rfl⟩:=ho.shape;have HLJ:=lH (jO w1 ho HL.out HSZ.out);rw[<-HJ.out,HLN.out] at HLJ;rw[HLN.out];have HB:=lH hb;clear ho hb)
   | (go_at_call 184;refine HLJ.out.mono ?_;rintro e2 w2 ⟨rfl,hb⟩;have HB2:=lH (HB.out.trans (hb.mono HB.out.size));clear hb))
  go_ret2
  exact⟨rfl,HB2.out⟩
end Go.Proofs.YthjbodpeckebiaaGreatDoor
-- Cur
namespace Go.Proofs.YthjbodpeckebiaaGreatDoor
open Go.RowKit
structure ax (w:World) (g:Nat) (s:ByteArray) (at_:Nat):Prop where
 k:ac w g #[.string s,.int .i64 (at_:Int)] 226
 le:at_<=s.size
theorem ax.call {w w':World} {g:Nat} {s:ByteArray} {a:Nat} (h:ax w g s a) (hb:Below w.heap.size w w'):ax w' g s a:=⟨h.k.call hb,h.le⟩
theorem ci (s:ByteArray) (a:Nat):(s.extract a s.size).data.toList=s.data.toList.drop a:=by
 rw[Lib.extract_data,uu];rw[t7];simp
theorem rI {P:UInt8->Bool}:∀(l:List UInt8) (k:Nat),k<=l.length->(∀j (h:j<l.length),j<k->P l[j]=true)->(k=l.length\/∃h:k<l.length,P l[k]=false)->(l.takeWhile P).length=k
 | [],k,hk,_,_=>by simp at hk;simp[hk]
 | b :: l,0,_,_,h=>by
   rcases h with h|⟨_,h⟩
   ·simp at h
   ·have:P b=false:=h
    rw[u0,this];rfl
 | b :: l,k+1,hk,ha,h=>by
   have hb:P b=true:=ha 0 (by simp) (by omega)
   rw[u0,hb,if_pos rfl,t4,rI l k (by simpa using hk) (fun j hj hjk=>ha (j+1) (by simpa using hj) (by omega)) (by
    rcases h with h|⟨h1,h2⟩
    ·left;simpa using h
    ·exact Or.inr ⟨by simpa using h1,by simpa using h2⟩)]
theorem oa {P:Int->Bool} {Q:UInt8->Bool} {R:ByteArray} {k:Nat} (hPQ:∀b:UInt8,Q b=P b.toNat) (hk:k<=R.size) (ha:∀j,j<k->P (bt R j)=true) (h:k=R.size\/(k<R.size/\P (bt R k)=false)):(R.data.toList.takeWhile Q).length=k:=by
 have hl:R.data.toList.length=R.size:=by simp
 have hg:∀j (h:j<R.data.toList.length),Q R.data.toList[j]=P (bt R j):=fun j h=>by
  rw[hPQ,cd R j (by omega)];rfl
 refine rI _ k (by omega) (fun j hj hjk=>by rw[hg j hj];exact ha j hjk) ?_;rcases h with h|⟨h1,h2⟩
 ·left;omega
 ·exact Or.inr ⟨by omega,by rw[hg];exact h2⟩
theorem cN {w:World} {g at_:Nat} {s:ByteArray} (h:ax w g s at_) (hs:s.size<=1000000):
 Calls Tryz.prog 228 #[.pointer (some ⟨g,0,none⟩)] w fun e w'=>e=.returned (.string (s.extract at_ s.size))/\∃m,w'=w.drewN m:=by
 obtain⟨k0,k1⟩:=bc2 h.k 0 1;simp at k0 k1;have hle:=h.le
 have hsl:∀V:World,(Instr.slice 9 (.string s) (some (.int .i64 (at_:Int))) none none).run Tryz.prog V=.ok (.string (s.extract at_ s.size)) V:=fun V=>by
  rw[uK V 9 s Tryz.underlying9 .i64 (at_:Int) (by omega) (by omega),uc]
 clear h hle;go_enter Tryz.func228,Tryz.ntmps228
 go_wp2_with fail
 go_quiet (fail)
 go_wp2_with fail
 go_ret;exact⟨rfl,_,rfl⟩
theorem lE (s:ByteArray) (w:World):Calls Tryz.prog 189 #[.string s] w fun e w'=>e=.returned (.pointer (some ⟨w.heap.size,0,none⟩))/\w'=w.alloc (.cells #[.string s,.int .i64 0] 226):=by
 go_enter Tryz.func189,Tryz.ntmps189
 go_wp2_with fail
 go_ret;exact⟨rfl,rfl⟩
theorem jw {w:World} {g at_:Nat} {s:ByteArray} (h:ax w g s at_) (hs:s.size<=1000000):
 Calls Tryz.prog 196 #[.pointer (some ⟨g,0,none⟩)] w fun e w'=>e=.returned (.bool (s.data.toList.drop at_).isEmpty)/\Below w.heap.size w w':=by
 have HL:=lH (cN h hs);obtain⟨R,hR⟩:∃R,R=s.extract at_ s.size:=⟨_,rfl⟩;rw[<-hR] at HL;have hRd:R.toList.isEmpty=(s.data.toList.drop at_).isEmpty:=by rw[af,hR,ci]
 rw[<-hRd];clear h hR hRd;cases he:R.toList.isEmpty
 all_goals
  go_enter Tryz.func196,Tryz.ntmps196
  go_wp2_with (go_at_call 228;refine HL.out.mono ?_;rintro e1 w1 ⟨rfl,hb⟩;have HB:=lH (aw hb);clear hb)
  go_ret;exact⟨rfl,HB.out⟩
theorem sb {w:World} {g:Nat} {s:ByteArray} {a b:Nat} (h:ax w g s a) (hb:b<=s.size) (v:Int) (hv:v=(b:Int)):ax (w.setCell ⟨g,1,none⟩ (.int .i64 v)) g s b:=by
 subst hv;have:=h.k.set 1 (.int .i64 (b:Int));exact⟨by simpa using this,hb⟩
def dW (g:Nat) (k:Nat):Prop:=k=g
theorem fH {w:World} {g at_:Nat} {s:ByteArray} (h:ax w g s at_) (hs:s.size<=1000000) (n:Nat) (hn:at_+n<=s.size):
 Calls Tryz.prog 224 #[.pointer (some ⟨g,0,none⟩),.int .i64 (n:Int)] w fun e w'=>e=.returned (.string (s.extract at_ (at_+n)))/\ax w' g s (at_+n)/\aa (dW g) w w':=by
 have HL:=lH (cN h hs);obtain⟨R,hR⟩:∃R,R=s.extract at_ s.size:=⟨_,rfl⟩;rw[<-hR] at HL;have hRs:R.size=s.size - at_:=by rw[hR];simp
 obtain⟨X,hX⟩:∃X,X=s.extract at_ (at_+n):=⟨_,rfl⟩
 have hsl:∀V:World,(Instr.slice 9 (.string R) none (some (.int .i64 (n:Int))) none).run Tryz.prog V=.ok (.string X) V:=fun V=>by
  rw[run_slice_string_h V 9 R Tryz.underlying9 .i64 (n:Int) (by omega) (by omega),uc,hX,hR,ByteArray.extract_extract];congr 3<;>omega
 have H:=lH h;have hai:(at_:Int)<=1000000:=by omega
 have hni:(n:Int)<=1000000:=by omega
 have HN:=lH hn;have hle:=h.le;rw[<-hX];by_cases h0:n=0
 ·have hp:decide ((0:Int)<(n:Int))=false:=dF (by omega)
  have hp2:decide (0<n)=false:=dF (by omega);have H0:=lH h0;clear h hR hRs hX hle hn h0;go_enter Tryz.func224,Tryz.ntmps224
  go_wp2_with (go_at_call 228;refine HL.out.mono ?_;rintro e1 w1 ⟨rfl,hb⟩;have HB:=lH (aw hb);clear hb)
  go_ret;refine⟨rfl,?_,aa.of_below HB.out⟩;rw[H0.out,Nat.add_zero];exact H.out.call HB.out
 ·have hp:decide ((0:Int)<(n:Int))=true:=dT (by omega)
  have hp2:decide (0<n)=true:=dT (by omega);clear h hR hRs hX hle h0 hn;go_enter Tryz.func224,Tryz.ntmps224
  go_wp2_with (go_at_call 228;refine HL.out.mono ?_;rintro e1 w1 ⟨rfl,hb⟩;have HB:=lH (aw hb);have H1:=lH (H.out.call HB.out);have k1:=H1.out.k.cell 1;simp at k1;have f1:=H1.out.k.froz 1;clear hb)
  go_ret;exact⟨rfl,sb H1.out HN.out _ (by simp),aa.setCell (P:=dW g) (aa.of_below HB.out) (show dW g g from rfl) _⟩
theorem pR (r:Int) (_h0:0<=r) (_h1:r<=255) (w:World):Calls Tryz.prog 227 #[.int .u8 r] w fun e w'=>e=.returned (.bool (cu r))/\Below w.heap.size w w':=by
 by_cases h1:r=32
 ·have HV:=lH (ew (.inl h1))
  subst h1;go_enter Tryz.func227,Tryz.ntmps227
  go_wp2_with fail
  go_ret;rw[HV.out];exact⟨rfl,tU _ _⟩
 ·have e1:(r==32)=false:=by rw[tT];exact h1
  by_cases h2:r=9
  ·have HV:=lH (ew (.inr h2))
   subst h2;go_enter Tryz.func227,Tryz.ntmps227
   go_wp2_with fail
   go_ret;rw[HV.out];exact⟨rfl,tU _ _⟩
  ·have e2:(r==9)=false:=by rw[tT];exact h2
   have HV:=lH (iy h1 h2);go_enter Tryz.func227,Tryz.ntmps227
   go_wp2_with fail
   go_ret;rw[HV.out];exact⟨rfl,tU _ _⟩
theorem ku (r:Int) (h0:0<=r) (h1:r<=255) (w:World):Calls Tryz.prog 226 #[.int .u8 r] w fun e w'=>e=.returned (.bool (aD r))/\Below w.heap.size w w':=by
 have HT:=lH (j4 r h0 w);go_enter Tryz.func226,Tryz.ntmps226
 go_wp2_with (go_at_call 203;refine HT.out.mono ?_;rintro e1 w1 ⟨rfl,hb⟩;have HB:=lH hb;clear hb)
 go_ret;exact⟨rfl,HB.out⟩
theorem pT {w:World} {g at_:Nat} {s:ByteArray} (h:ax w g s at_) (hs:s.size<=1000000):
 Calls Tryz.prog 225 #[.pointer (some ⟨g,0,none⟩),.func (.func 227) #[] #[]] w fun e w'=>e=.returned (.int .i64 ((ai (s.data.toList.drop at_):Nat):Int))/\Below w.heap.size w w':=by
 have HL:=lH (cN h hs);have hle:=h.le;obtain⟨R,hR⟩:∃R,R=s.extract at_ s.size:=⟨_,rfl⟩;rw[<-hR] at HL;have hRd:R.data.toList=s.data.toList.drop at_:=by rw[hR,ci]
 have hRs:R.size<=1000000:=by rw[hR];simp;omega
 rw[<-hRd];obtain⟨N,hN⟩:∃N,N=ai R.data.toList:=⟨_,rfl⟩;have HN:=lH hN;rw[<-hN];clear h hle hR hRd hN;go_enter Tryz.func225,Tryz.ntmps225
 go_wp2_with (go_at_call 228;refine HL.out.mono ?_;rintro e1 w1 ⟨rfl,hb⟩;have HB:=lH (aw hb);clear hb)
 go_loopw [6] (fun i wr=>∃k:Nat,k<=R.size/\i=.int .i64 k/\(∀j,j<k->cu (bt R j)=true)/\Below w.heap.size w wr) (fun i _=>R.size - (intOf i).toNat)
 case atStart=>exact⟨0,tX _,rfl,(fun j hj=>absurd hj (uL _)),HB.out⟩
 case round=>
  obtain⟨k,hk,rfl,hall,hb⟩:=hrel;have HA:=lH hall;have HB2:=lH hb;clear hall hb;by_cases hlt:k<R.size
  ·have hk1:decide ((k:Int)<(R.size:Int))=true:=dT (by omega)
   have hix:=ar R k hlt;have hr:=cq R k;obtain⟨x,hx⟩:∃x,x=bt R k:=⟨_,rfl⟩;rw[<-hx] at hix hr;have HX:=lH hx;obtain⟨q,hq⟩:∃q,q=cu x:=⟨_,rfl⟩;have HQ:=lH hq;have HF:Hid (∀W:World,Calls Tryz.prog 227 #[.int .u8 x] W fun e w'=>e=.returned (.bool q)/\Below W.heap.size W w'):=fun W=>by rw[hq];exact pR x hr.1 hr.2 W
   clear hx hr hq;cases q with
   | true=>
     go_wp2_with (go_at_call 227;refine(HF.out _).mono ?_;rintro e2 w2 ⟨rfl,hb⟩;have HB3:=lH (HB2.out.trans (hb.mono HB2.out.size));clear hb)
     go_roundw
     case rel=>
      refine⟨k+1,hlt,by go_num,fun j hj=>?_,HB3.out⟩;rcases (by omega:j=k\/j<k) with rfl|h
      ·rw[<-HX.out,<-HQ.out]
      ·exact HA.out j h
     case measure=>simp[intOf];omega
   | false=>
     have HE:Hid (N=k):=by
      show N=k;rw[HN.out];exact oa (P:=cu) (fun b=>rfl) hk HA.out (Or.inr ⟨hlt,by rw[<-HX.out,<-HQ.out]⟩)
     go_wp2_with (go_at_call 227;refine(HF.out _).mono ?_;rintro e2 w2 ⟨rfl,hb⟩;have HB3:=lH (HB2.out.trans (hb.mono HB2.out.size));clear hb)
     go_ret;rw[HE.out];exact⟨rfl,HB3.out⟩
  ·have hk1:decide ((k:Int)<(R.size:Int))=false:=dF (by omega)
   have HE:Hid (N=k):=by
    show N=k;rw[HN.out];exact oa (P:=cu) (fun b=>rfl) hk HA.out (Or.inl (by omega))
   go_wp2_with fail
   go_ret;rw[HE.out];exact⟨rfl,HB2.out⟩
theorem rB {w:World} {g at_:Nat} {s:ByteArray} (h:ax w g s at_) (hs:s.size<=1000000):
 Calls Tryz.prog 225 #[.pointer (some ⟨g,0,none⟩),.func (.func 226) #[] #[]] w fun e w'=>e=.returned (.int .i64 ((bw (s.data.toList.drop at_):Nat):Int))/\Below w.heap.size w w':=by
 have HL:=lH (cN h hs);have hle:=h.le;obtain⟨R,hR⟩:∃R,R=s.extract at_ s.size:=⟨_,rfl⟩;rw[<-hR] at HL;have hRd:R.data.toList=s.data.toList.drop at_:=by rw[hR,ci]
 have hRs:R.size<=1000000:=by rw[hR];simp;omega
 rw[<-hRd];obtain⟨N,hN⟩:∃N,N=bw R.data.toList:=⟨_,rfl⟩;have HN:=lH hN;rw[<-hN];clear h hle hR hRd hN;go_enter Tryz.func225,Tryz.ntmps225
 go_wp2_with (go_at_call 228;refine HL.out.mono ?_;rintro e1 w1 ⟨rfl,hb⟩;have HB:=lH (aw hb);clear hb)
 go_loopw [6] (fun i wr=>∃k:Nat,k<=R.size/\i=.int .i64 k/\(∀j,j<k->aD (bt R j)=true)/\Below w.heap.size w wr) (fun i _=>R.size - (intOf i).toNat)
 case atStart=>exact⟨0,tX _,rfl,(fun j hj=>absurd hj (uL _)),HB.out⟩
 case round=>
  obtain⟨k,hk,rfl,hall,hb⟩:=hrel;have HA:=lH hall;have HB2:=lH hb;clear hall hb;by_cases hlt:k<R.size
  ·have hk1:decide ((k:Int)<(R.size:Int))=true:=dT (by omega)
   have hix:=ar R k hlt;have hr:=cq R k;obtain⟨x,hx⟩:∃x,x=bt R k:=⟨_,rfl⟩;rw[<-hx] at hix hr;have HX:=lH hx;obtain⟨q,hq⟩:∃q,q=aD x:=⟨_,rfl⟩;have HQ:=lH hq;have HF:Hid (∀W:World,Calls Tryz.prog 226 #[.int .u8 x] W fun e w'=>e=.returned (.bool q)/\Below W.heap.size W w'):=fun W=>by rw[hq];exact ku x hr.1 hr.2 W
   clear hx hr hq;cases q with
   | true=>
     go_wp2_with (go_at_call 226;refine(HF.out _).mono ?_;rintro e2 w2 ⟨rfl,hb⟩;have HB3:=lH (HB2.out.trans (hb.mono HB2.out.size));clear hb)
     go_roundw
     case rel=>
      refine⟨k+1,hlt,by go_num,fun j hj=>?_,HB3.out⟩;rcases (by omega:j=k\/j<k) with rfl|h
      ·rw[<-HX.out,<-HQ.out]
      ·exact HA.out j h
     case measure=>simp[intOf];omega
   | false=>
     have HE:Hid (N=k):=by
      show N=k;rw[HN.out];exact oa (P:=aD) (fun b=>rfl) hk HA.out (Or.inr ⟨hlt,by rw[<-HX.out,<-HQ.out]⟩)
     go_wp2_with (go_at_call 226;refine(HF.out _).mono ?_;rintro e2 w2 ⟨rfl,hb⟩;have HB3:=lH (HB2.out.trans (hb.mono HB2.out.size));clear hb)
     go_ret;rw[HE.out];exact⟨rfl,HB3.out⟩
  ·have hk1:decide ((k:Int)<(R.size:Int))=false:=dF (by omega)
   have HE:Hid (N=k):=by
    show N=k;rw[HN.out];exact oa (P:=aD) (fun b=>rfl) hk HA.out (Or.inl (by omega))
   go_wp2_with fail
   go_ret;rw[HE.out];exact⟨rfl,HB2.out⟩
theorem eh {w:World} {g at_:Nat} {s:ByteArray} (h:ax w g s at_) (hs:s.size<=1000000):
 Calls Tryz.prog 193 #[.pointer (some ⟨g,0,none⟩)] w fun e w'=>e=.returned (.int .i64 ((ai (s.data.toList.drop at_):Nat):Int))/\ax w' g s (at_+ai (s.data.toList.drop at_))/\aa (dW g) w w':=by
 have HSP:=lH (pT h hs);have hle:=h.le;have hn:=dn (s.data.toList.drop at_);rw[t7] at hn;have hl:s.data.toList.length=s.size:=by simp
 obtain⟨n,hnn⟩:∃n,n=ai (s.data.toList.drop at_):=⟨_,rfl⟩;rw[<-hnn] at HSP hn ⊢;have HN:Hid (at_+n<=s.size):=by show _<=_;omega
 have H:=lH h;have hls:(s.extract at_ (at_+n)).size=n:=by simp;omega
 obtain⟨X,hX⟩:∃X,X=s.extract at_ (at_+n):=⟨_,rfl⟩;have HX:=lH hX;rw[<-hX] at hls;have HLS:=lH hls;(try rw[<-hX])
 clear h hle hn hl hnn hX hls;go_enter Tryz.func193,Tryz.ntmps193
 go_wp2_with (first
  | (go_at_call 225;refine HSP.out.mono ?_;rintro e1 w1 ⟨rfl,hb⟩;have H1:=lH (H.out.call hb);have HB:=lH hb;clear hb)
  | (go_at_call 224;refine(fH H1.out hs n HN.out).mono ?_;rintro e2 w2 ⟨rfl,hc,ht⟩;rw[<-HX.out];have HC:=lH hc;have HT:=lH ht;clear hc ht))
 go_ret;(try rw[HLS.out])
 exact⟨rfl,HC.out,(aa.of_below HB.out).trans HT.out⟩
theorem eN {w:World} {g at_:Nat} {s:ByteArray} (h:ax w g s at_) (hs:s.size<=1000000):
 Calls Tryz.prog 191 #[.pointer (some ⟨g,0,none⟩)] w fun e w'=>e=.returned (.string (s.extract at_ (at_+bw (s.data.toList.drop at_))))/\ax w' g s (at_+bw (s.data.toList.drop at_))/\aa (dW g) w w':=by
 have HSP:=lH (rB h hs);have hle:=h.le;have hn:=g6 (s.data.toList.drop at_);rw[t7] at hn;have hl:s.data.toList.length=s.size:=by simp
 obtain⟨n,hnn⟩:∃n,n=bw (s.data.toList.drop at_):=⟨_,rfl⟩;rw[<-hnn] at HSP hn ⊢;have HN:Hid (at_+n<=s.size):=by show _<=_;omega
 have H:=lH h;have hls:(s.extract at_ (at_+n)).size=n:=by simp;omega
 obtain⟨X,hX⟩:∃X,X=s.extract at_ (at_+n):=⟨_,rfl⟩;have HX:=lH hX;rw[<-hX] at hls;have HLS:=lH hls;(try rw[<-hX])
 clear h hle hn hl hnn hX hls;go_enter Tryz.func191,Tryz.ntmps191
 go_wp2_with (first
  | (go_at_call 225;refine HSP.out.mono ?_;rintro e1 w1 ⟨rfl,hb⟩;have H1:=lH (H.out.call hb);have HB:=lH hb;clear hb)
  | (go_at_call 224;refine(fH H1.out hs n HN.out).mono ?_;rintro e2 w2 ⟨rfl,hc,ht⟩;rw[<-HX.out];have HC:=lH hc;have HT:=lH ht;clear hc ht))
 go_ret;(try rw[HLS.out])
 exact⟨rfl,HC.out,(aa.of_below HB.out).trans HT.out⟩
def mK (c:Int) (l:List UInt8):Bool:=match l with
 | []=>false
 | b :: _=>decide ((b.toNat:Int)=c)
theorem iq {w:World} {g at_:Nat} {s:ByteArray} (h:ax w g s at_) (hs:s.size<=1000000) (c:Int):
 Calls Tryz.prog 194 #[.pointer (some ⟨g,0,none⟩),.int .u8 c] w fun e w'=>e=.returned (.bool (mK c (s.data.toList.drop at_)))/\ax w' g s (at_+if mK c (s.data.toList.drop at_)=true then 1 else 0)/\aa (dW g) w w':=by
 have HL:=lH (cN h hs);have hle:=h.le;obtain⟨R,hR⟩:∃R,R=s.extract at_ s.size:=⟨_,rfl⟩;rw[<-hR] at HL;have hRd:R.data.toList=s.data.toList.drop at_:=by rw[hR,ci]
 have hRs:R.size=s.size - at_:=by rw[hR];simp
 have H:=lH h;rw[<-hRd];cases hd:R.data.toList with
 | nil=>
   have he:R.toList.isEmpty=true:=by rw[af,hd];rfl
   clear h hle hR hRd hRs hd;go_enter Tryz.func194,Tryz.ntmps194
   go_wp2_with (go_at_call 228;refine HL.out.mono ?_;rintro e1 w1 ⟨rfl,hb⟩;have HB:=lH (aw hb);clear hb)
   go_ret;exact⟨rfl,H.out.call HB.out,aa.of_below HB.out⟩
 | cons b l=>
   have he:R.toList.isEmpty=false:=by rw[af,hd];rfl
   have hp:0<R.size:=by
    have:R.data.toList.length=R.size:=by simp
    rw[hd] at this;simp at this;omega
   have hix:∀W:World,(Instr.index 9 (.string R) (.int .i64 0)).run Tryz.prog W=.ok (.int .u8 (bt R 0)) W:=ar R 0 hp
   have hx:bt R 0=b.toNat:=by
    rw[cd R 0 hp];have h0:R.data.toList[0]? = some (R[0]'hp):=tW (by simpa using hp);rw[hd] at h0;have:b=R[0]'hp:=ve h0;rw[this]
   obtain⟨x,hxx⟩:∃x,x=bt R 0:=⟨_,rfl⟩;rw[<-hxx] at hix hx;have hv:mK c (b :: l)=decide (x=c):=by rw[hx];rfl
   rw[hv];have HN:Hid (at_+1<=s.size):=by show _<=_;omega
   clear h hle hR hRd hRs hd hxx hx hv hp;by_cases hc:x=c
   ·subst hc
    go_enter Tryz.func194,Tryz.ntmps194
    go_wp2_with (first
     | (go_at_call 228;refine HL.out.mono ?_;rintro e1 w1 ⟨rfl,hb⟩;have HB:=lH (aw hb);have H1:=lH (H.out.call HB.out);clear hb)
     | (go_at_call 224;refine(fH H1.out hs 1 HN.out).mono ?_;rintro e2 w2 ⟨rfl,hc2,ht⟩;have HC:=lH hc2;have HT:=lH ht;clear hc2 ht))
    go_ret;exact⟨rfl,HC.out,(aa.of_below HB.out).trans HT.out⟩
   ·have e1:(x==c)=false:=by rw[tT];exact hc
    have e2:(x != c)=true:=by rw[uI];exact hc
    have e3:decide (x=c)=false:=dF hc;rw[e3];clear hc;go_enter Tryz.func194,Tryz.ntmps194
    go_wp2_with (go_at_call 228;refine HL.out.mono ?_;rintro e1 w1 ⟨rfl,hb⟩;have HB:=lH (aw hb);clear hb)
    go_ret;exact⟨rfl,H.out.call HB.out,aa.of_below HB.out⟩
end Go.Proofs.YthjbodpeckebiaaGreatDoor
-- Quo
namespace Go.Proofs.YthjbodpeckebiaaGreatDoor
open Go.RowKit
theorem aK {P Q:Nat->Prop} {w w1 w2:World} (h:aa P w w1) (k:aa Q w1 w2) (hq:∀i,i<w.heap.size->Q i->P i):aa P w w2:=
 ⟨k.os.trans h.os,k.tape.trans h.tape,k.output.trans h.output,nT h.size k.size,fun i hi hP=>(k.block i (uD hi h.size) fun hQ=>hP (hq i hi hQ)).trans (h.block i hi hP)⟩
theorem tR {w:World} {g at_:Nat} {s:ByteArray} (h:ax w g s at_) (hs:s.size<=1000000) (n:Nat) (v:Int) (hv:v=(n:Int)) (hn:at_+n<=s.size):
 Calls Tryz.prog 224 #[.pointer (some ⟨g,0,none⟩),.int .i64 v] w fun e w'=>e=.returned (.string (s.extract at_ (at_+n)))/\ax w' g s (at_+n)/\aa (dW g) w w':=by
 subst hv;exact fH h hs n hn
def quT:Option (Nat×List UInt8)->ByteArray
 | none=>⟨#[]⟩
 | some p=>⟨p.2.toArray⟩
def quN:Option (Nat×List UInt8)->Nat
 | none=>0
 | some p=>p.1
theorem sr:gV []=none:=by rw[gV]
theorem ri (t:List UInt8):gV (34 :: t)=some (1,[]):=by rw[gV.eq_def];rfl
theorem pG:gV [92]=none:=by rw[gV.eq_def];rfl
theorem rj (c:UInt8) (r:List UInt8):gV (92 :: c :: r)=if ay c.toNat=true then (gV r).map (fun p=>(p.1+2,c :: p.2)) else none:=by rw[gV.eq_def];rfl
theorem su {b:UInt8} (t:List UInt8) (h1:b≠34) (h2:b≠92):gV (b :: t)=if ay b.toNat=true then (gV t).map (fun p=>(p.1+1,b :: p.2)) else none:=by
 rw[gV.eq_def];simp only;rw[if_neg h1,if_neg h2]
theorem m8 {w:World} {g at_:Nat} {s:ByteArray} (h:ax w g s at_) (hs:s.size<=1000000) {Q:Option (Nat×List UInt8)} (hQ:Q=ma (s.data.toList.drop at_)):
 Calls Tryz.prog 229 #[.pointer (some ⟨g,0,none⟩)] w fun e w'=>e=.returned (.tuple #[.string (quT Q),.bool Q.isSome])/\ax w' g s (at_+quN Q)/\aa (dW g) w w':=by
 have HL:=lH (cN h hs);have hle:=h.le
 have hqs:∀p,Q=some p->p.1<=s.size - at_:=fun p hp=>by
  have:=(rk (hQ.symm.trans hp)).2.1;rw[t7] at this;simpa using this
 have HQS:=lH hqs;obtain⟨R,hR⟩:∃R,R=s.extract at_ s.size:=⟨_,rfl⟩;rw[<-hR] at HL;have hRd:R.data.toList=s.data.toList.drop at_:=by rw[hR,ci]
 have hRs:R.size=s.size - at_:=by rw[hR];simp
 have H:=lH h;have HG0:=lH h.k.lt;have HRS:=lH hRs;rw[<-hRd] at hQ;have hRi:(R.size:Int)<=1000000:=by omega
 have hRl:R.data.toList.length=R.size:=by simp
 have HRL:=lH hRl;clear h hR hRd hRs hqs;by_cases hm:mK 34 R.data.toList=true
 rotate_left
 ·have hq0:Q=none:=by
   rw[hQ];cases hd:R.data.toList with
   | nil=>rfl
   | cons b t=>
     rw[hd] at hm;unfold ma;simp only;rw[if_neg];rintro rfl;exact hm (by simp[mK])
  subst hq0;by_cases h0:R.size=0
  ·have he:R.toList.isEmpty=true:=by
    rw[af,List.isEmpty_iff];exact t9 (by omega)
   clear hm hQ h0 hRl hle;go_enter Tryz.func229,Tryz.ntmps229
   go_wp2_with (go_at_call 228;refine HL.out.mono ?_;rintro e1 w1 ⟨rfl,hb⟩;have HB:=lH (aw hb);clear hb)
   go_ret2
   exact⟨rfl,H.out.call HB.out,aa.of_below HB.out⟩
  ·have he:R.toList.isEmpty=false:=by
    rw[af,List.isEmpty_eq_false_iff];intro e;rw[e] at hRl;simp at hRl;omega
   have hix:∀W:World,(Instr.index 9 (.string R) (.int .i64 0)).run Tryz.prog W=.ok (.int .u8 (bt R 0)) W:=ar R 0 (by omega);obtain⟨x,hx⟩:∃x,x=bt R 0:=⟨_,rfl⟩;rw[<-hx] at hix
   have hne:x≠34:=by
    intro h34;refine hm ?_;obtain⟨c,hc,hdr⟩:=cz R 0 (by omega);rw[us] at hdr;rw[hdr];unfold mK;rw[tY];omega
   have x1:(x==34)=false:=by rw[tT];exact hne
   have x2:(x != 34)=true:=by rw[uI];exact hne
   have x3:decide (x=34)=false:=dF hne;clear hm hQ h0 hRl hle hx hne;go_enter Tryz.func229,Tryz.ntmps229
   go_wp2_with (go_at_call 228;refine HL.out.mono ?_;rintro e1 w1 ⟨rfl,hb⟩;have HB:=lH (aw hb);clear hb)
   go_ret2
   exact⟨rfl,H.out.call HB.out,aa.of_below HB.out⟩
 ·have hp:0<R.size:=by
   rcases Nat.eq_zero_or_pos R.size with h0|h0
   ·have:R.data.toList=[]:=t9 (by omega)
    rw[this] at hm;cases hm
   ·exact h0
  obtain⟨c,hc,hdr⟩:=cz R 0 hp;rw[us] at hdr
  have hc34:c=34:=by
   rw[hdr] at hm;unfold mK at hm;rw[tY] at hm
   exact ut.1 (by
    have:(34:UInt8).toNat=34:=rfl
    omega)
  subst hc34
  have hix:∀W:World,(Instr.index 9 (.string R) (.int .i64 0)).run Tryz.prog W=.ok (.int .u8 34) W:=fun W=>by
   have h:=ar R 0 hp W;rw[hc] at h;exact h
  have hQ0:Q=(gV (R.data.toList.drop 1)).map (fun p=>(p.1+1,[]++p.2)):=by
   rw[hQ];have e:ma R.data.toList=ma (34 :: R.data.toList.drop 1):=by rw[<-hdr]
   rw[e];unfold ma;simp only;rw[if_pos trivial];rfl
  have HQ0:=lH hQ0
  have he:R.toList.isEmpty=false:=by
   rw[af,List.isEmpty_eq_false_iff];intro e;rw[e] at hRl;simp at hRl;omega
  clear hm hQ hQ0 hc hdr hRl;go_enter Tryz.func229,Tryz.ntmps229
  go_wp2_with (go_at_call 228;refine HL.out.mono ?_;rintro e1 w1 ⟨rfl,hb⟩;have HB:=lH (aw hb);clear hb)
  go_loopw [5,6] (fun u5 u6 wr=>∃(k:Nat) (acc:List UInt8),1<=k/\k<=R.size/\u6=.int .i64 k/\cm wr w.heap.size u5 acc/\Q=(gV (R.data.toList.drop k)).map (fun p=>(p.1+k,acc++p.2))/\acc.length<=k/\ax wr g s at_/\aa (dW g) w wr) (fun _ u6 _=>R.size - (intOf u6).toNat)
  case atStart=>exact⟨1,[],nR _,hp,rfl,cm.start _ _,HQ0.out,tX _,H.out.call HB.out,aa.of_below HB.out⟩
  case round=>
   obtain⟨k,acc,hk1,hk,rfl,ho,hq,hac,hcu,ht⟩:=hrel;have HO:=lH ho;have HAC:=lH hac;have HC:=lH hcu;have HT:=lH ht;have HG:Hid (g<w.heap.size):=HG0.out;have HAB:Hid (acc.length<=1000000):=by show _<=_;omega
   clear ho hac hcu ht;by_cases hlt:k<R.size
   ·have hk1:decide ((k:Int)<(R.size:Int))=true:=dT (by omega)
    have hix2:=ar R k hlt;obtain⟨c,hc,hdr⟩:=cz R k hlt;obtain⟨x,hx⟩:∃x,x=bt R k:=⟨_,rfl⟩;rw[<-hx] at hix2 hc;rw[hdr] at hq;by_cases h34:x=34
    ·have hc34:c=34:=ut.1 (by
     have:(34:UInt8).toNat=34:=rfl
     omega)
     rw[hc34,ri] at hq;have HQ:Hid (Q=some (1+k,acc)):=by show _=_;rw[hq];simp
     have HN:Hid (at_+(k+1)<=s.size):=by show _<=_;have:=HRS.out;omega
     subst h34;clear hx hc hdr hq hc34;go_wp2_with (go_at_call 224;refine(tR HC.out hs (k+1) _ (by omega) HN.out).mono ?_;rintro e2 w2 ⟨rfl,hc2,ht2⟩;have HC2:=lH hc2;have HT2:=lH (HT.out.trans ht2);have kc:=rb (ab HO.out ht2 (fun j hj e=>by have h1:=d5 HO.out j hj;rw[show j=g from e] at h1;exact absurd h1 (Nat.not_le_of_lt HG.out)));clear hc2 ht2)
     go_ret2
     rw[HQ.out];refine⟨rfl,?_,HT2.out⟩;show ax w2 g s (at_+(1+k));rw[Nat.add_comm 1 k];exact HC2.out
    have x34a:(x==34)=false:=by rw[tT];exact h34
    have x34b:(x != 34)=true:=by rw[uI];exact h34
    have x34d:decide (x=34)=false:=dF h34;have hc34:c≠34:=by rintro rfl;exact h34 hc
    by_cases h92:x=92
    ·have hc92:c=92:=ut.1 (by
     have:(92:UInt8).toNat=92:=rfl
     omega)
     rw[hc92] at hq;subst h92;by_cases hend:k+1=R.size
     ·have e1:((k:Int)+1==(R.size:Int))=true:=by rw[uB];omega
      have HQ:Hid (Q=none):=by
       show _=_;rw[hq,hend,ug (by have:=HRL.out;omega),pG];rfl
      clear hx hc hdr hq hc92 hc34 h34 hend;go_wp2_with fail
      go_ret2
      rw[HQ.out];exact⟨rfl,HC.out,HT.out⟩
     ·have e1:((k:Int)+1==(R.size:Int))=false:=by rw[tT];omega
      have hlt2:k+1<R.size:=by omega
      obtain⟨d,hd,hdr2⟩:=cz R (k+1) hlt2
      have hix3:∀W:World,(Instr.index 9 (.string R) (.int .i64 ((k:Int)+1))).run Tryz.prog W=.ok (.int .u8 (bt R (k+1))) W:=fun W=>by
       have h:=ar R (k+1) hlt2 W;rw[show ((k+1:Nat):Int)=(k:Int)+1 by omega] at h;exact h
      obtain⟨y,hy⟩:∃y,y=bt R (k+1):=⟨_,rfl⟩;rw[<-hy] at hix3 hd;have HY8:Hid (y=(d.toNat:Int)):=hd
      have HQ:Hid (Q=if ay d.toNat=true then (gV (R.data.toList.drop (k+2))).map (fun p=>(p.1+(k+2),(acc++[d])++p.2)) else none):=by
       show _=_;rw[hq,hdr2,rj];split
       ·rw[Option.map_map]
        congr 1
        funext p
        simp;omega
       ·rfl
      clear hx hc hdr hq hc92 hc34 h34 hend hd hdr2 hy
      have hcv:(convert 134 9 (.slice (some ⟨wr.heap.size,0,none⟩) 1 1)).run Tryz.prog (wr.alloc (.cells #[.int .u8 y] 5))=.ok (.string ⟨#[d]⟩) (wr.alloc (.cells #[.int .u8 y] 5)):=by
       refine run_convert_bytes_back (P:=Tryz.prog) _ 134 9 5 ⟨wr.heap.size,0,none⟩ 1 [d] Tryz.underlying134 Tryz.underlying5 Tryz.underlying9 (fun j hj=>?_);have hj0:j=0:=by simp at hj;omega
       subst hj0;rw[hO];have:=(ac.new wr #[.int .u8 y] 5).cell 0;rw[this,HY8.out];rfl
      have HVL:=lH (dq ⟨#[d]⟩ (show (1:Nat)<=9223372036854775807 by decide) (wr.alloc (.cells #[.int .u8 y] 5)));have HAL:=lH ((tU wr.heap.size wr).alloc (nR _) (.cells #[.int .u8 y] 5))
      have hvl:gW (⟨#[d]⟩:ByteArray).data.toList=ay d.toNat:=by
       show ([d]:List UInt8).all _=_;simp
      rw[hvl] at HVL;clear hvl;cases hv:ay d.toNat with
      | true=>
        rw[hv] at HVL;have HQ2:=HQ.out;rw[if_pos hv] at HQ2;have HQ3:=lH HQ2;clear hv HQ2
        go_wp2_with (first
         | (go_at_call 169;refine HVL.out.mono ?_;rintro e3 w3 ⟨rfl,hb⟩;have HB3:=lH (HAL.out.trans (hb.mono HAL.out.size));have HO3:Hid (cm w3 w.heap.size u5 acc):=(ab HO.out (aa.of_below (P:=fun _=>False) HB3.out) (fun _ _=>id));have HZ3:Hid (w.heap.size<=w3.heap.size):=nT HT.out.size HB3.out.size;clear hb)
         | (at_builtin;refine cj rfl _ _ rfl rfl HO3.out d _ HY8.out rfl HAB.out HZ3.out ?_;intro g4 c4 w4 ho4 ht4 _;have HO4:=lH ho4;have HT4:=lH (aK (aK HT.out (aa.of_below (P:=fun _=>False) HB3.out) (fun _ _ h=>h.elim)) ht4 (fun i hi h=>absurd (d5 HO3.out i h) (Nat.not_le_of_lt hi)));have HC4:=lH (ax.mk (((HC.out.call HB3.out).k).touch ht4 (fun e=>absurd (d5 HO3.out g e) (Nat.not_le_of_lt HG.out))) HC.out.le);clear ho4 ht4))
        go_roundw
        case rel=>exact⟨k+2,acc++[d],by omega,by omega,by go_num,HO4.out,HQ3.out,by have:=HAC.out;simp;omega,HC4.out,HT4.out⟩
        case measure=>simp[intOf];omega
      | false=>
        rw[hv] at HVL;have HQ2:=HQ.out;rw[if_neg (by rw[hv];decide)] at HQ2;have HQ3:=lH HQ2;clear hv HQ2;go_wp2_with (go_at_call 169;refine HVL.out.mono ?_;rintro e3 w3 ⟨rfl,hb⟩;have HB3:=lH (HAL.out.trans (hb.mono HAL.out.size));clear hb)
        go_ret2
        rw[HQ3.out];exact⟨rfl,HC.out.call HB3.out,aK HT.out (aa.of_below (P:=fun _=>False) HB3.out) (fun _ _ h=>h.elim)⟩
    have x92a:(x==92)=false:=by rw[tT];exact h92
    have x92d:decide (x=92)=false:=dF h92;have hc92:c≠92:=by rintro rfl;exact h92 hc
    have HY8:Hid (x=(c.toNat:Int)):=hc
    have HQ:Hid (Q=if ay c.toNat=true then (gV (R.data.toList.drop (k+1))).map (fun p=>(p.1+(k+1),(acc++[c])++p.2)) else none):=by
     show _=_;rw[hq,su _ hc34 hc92];split
     ·rw[Option.map_map]
      congr 1
      funext p
      simp;omega
     ·rfl
    clear hx hc hdr hq hc92 hc34 h34 h92
    have hcv:(convert 134 9 (.slice (some ⟨wr.heap.size,0,none⟩) 1 1)).run Tryz.prog (wr.alloc (.cells #[.int .u8 x] 5))=.ok (.string ⟨#[c]⟩) (wr.alloc (.cells #[.int .u8 x] 5)):=by
     refine run_convert_bytes_back (P:=Tryz.prog) _ 134 9 5 ⟨wr.heap.size,0,none⟩ 1 [c] Tryz.underlying134 Tryz.underlying5 Tryz.underlying9 (fun j hj=>?_);have hj0:j=0:=by simp at hj;omega
     subst hj0;rw[hO];have:=(ac.new wr #[.int .u8 x] 5).cell 0;rw[this,HY8.out];rfl
    have HVL:=lH (dq ⟨#[c]⟩ (show (1:Nat)<=9223372036854775807 by decide) (wr.alloc (.cells #[.int .u8 x] 5)));have HAL:=lH ((tU wr.heap.size wr).alloc (nR _) (.cells #[.int .u8 x] 5))
    have hvl:gW (⟨#[c]⟩:ByteArray).data.toList=ay c.toNat:=by
     show ([c]:List UInt8).all _=_;simp
    rw[hvl] at HVL;clear hvl;cases hv:ay c.toNat with
    | true=>
      rw[hv] at HVL;have HQ2:=HQ.out;rw[if_pos hv] at HQ2;have HQ3:=lH HQ2;clear hv HQ2
      go_wp2_with (first
       | (go_at_call 169;refine HVL.out.mono ?_;rintro e3 w3 ⟨rfl,hb⟩;have HB3:=lH (HAL.out.trans (hb.mono HAL.out.size));have HO3:Hid (cm w3 w.heap.size u5 acc):=(ab HO.out (aa.of_below (P:=fun _=>False) HB3.out) (fun _ _=>id));have HZ3:Hid (w.heap.size<=w3.heap.size):=nT HT.out.size HB3.out.size;clear hb)
       | (at_builtin;refine cj rfl _ _ rfl rfl HO3.out c _ HY8.out rfl HAB.out HZ3.out ?_;intro g4 c4 w4 ho4 ht4 _;have HO4:=lH ho4;have HT4:=lH (aK (aK HT.out (aa.of_below (P:=fun _=>False) HB3.out) (fun _ _ h=>h.elim)) ht4 (fun i hi h=>absurd (d5 HO3.out i h) (Nat.not_le_of_lt hi)));have HC4:=lH (ax.mk (((HC.out.call HB3.out).k).touch ht4 (fun e=>absurd (d5 HO3.out g e) (Nat.not_le_of_lt HG.out))) HC.out.le);clear ho4 ht4))
      go_roundw
      case rel=>exact⟨k+1,acc++[c],by omega,by omega,by go_num,HO4.out,HQ3.out,by have:=HAC.out;simp;omega,HC4.out,HT4.out⟩
      case measure=>simp[intOf];omega
    | false=>
      rw[hv] at HVL;have HQ2:=HQ.out;rw[if_neg (by rw[hv];decide)] at HQ2;have HQ3:=lH HQ2;clear hv HQ2;go_wp2_with (go_at_call 169;refine HVL.out.mono ?_;rintro e3 w3 ⟨rfl,hb⟩;have HB3:=lH (HAL.out.trans (hb.mono HAL.out.size));clear hb)
      go_ret2
      rw[HQ3.out];exact⟨rfl,HC.out.call HB3.out,aK HT.out (aa.of_below (P:=fun _=>False) HB3.out) (fun _ _ h=>h.elim)⟩
   ·have hk2:decide ((k:Int)<(R.size:Int))=false:=dF (by omega)
    have HQ:Hid (Q=none):=by
     show _=_;rw[hq,ug (by have:=HRL.out;omega),sr];rfl
    clear hq;go_wp2_with fail
    go_ret2
    rw[HQ.out];exact⟨rfl,HC.out,HT.out⟩
end Go.Proofs.YthjbodpeckebiaaGreatDoor
-- Val
namespace Go.Proofs.YthjbodpeckebiaaGreatDoor
open Go.RowKit
theorem pY {s:ByteArray} {a:Nat} (h:a+bw (s.data.toList.drop a)<=s.size):(s.extract a (a+bw (s.data.toList.drop a))).toList.isEmpty=decide (bw (s.data.toList.drop a)=0):=by
 rw[af,uU,List.isEmpty_iff,tY]
 have hl:(s.extract a (a+bw (s.data.toList.drop a))).data.toList.length=bw (s.data.toList.drop a):=by
  rw[<-Lib.size_eq];simp;omega
 constructor
 ·intro e
  rw[e] at hl;simpa using hl.symm
 ·intro e
  exact t9 (by omega)
theorem fx {c:UInt8} {n:Int} (hn:n=c.toNat) {l:List UInt8}:mK n l=true↔∃t,l=c :: t:=by
 cases l with
 | nil=>
   constructor
   ·intro h
    cases h
   ·rintro ⟨t,h⟩
    cases h
 | cons b t=>
   unfold mK;rw[tY];constructor
   ·intro h
    exact⟨t,by rw[ut.1 (show b.toNat=c.toNat by omega)]⟩
   ·rintro ⟨t',h⟩
    injection h with h _
    rw[h,hn]
theorem m4 {w:World} {g at_:Nat} {s:ByteArray} (h:ax w g s at_) (hs:s.size<=1000000) {V:Option Nat} (hV:V=ji (s.data.toList.drop at_)):
 Calls Tryz.prog 195 #[.pointer (some ⟨g,0,none⟩)] w fun e w'=>∃t a',e=.returned (.tuple #[.string t,.bool V.isSome])/\ax w' g s a'/\(∀n,V=some n->a'=at_+n)/\aa (dW g) w w':=by
 have HL:=lH (cN h hs);have hle:=h.le;obtain⟨L,hL⟩:∃L,L=s.data.toList.drop at_:=⟨_,rfl⟩;rw[<-hL] at hV;have hsk:=dn L;have hLl:L.length=s.size - at_:=by rw[hL,t7];simp
 obtain⟨R,hR⟩:∃R,R=s.extract at_ s.size:=⟨_,rfl⟩;rw[<-hR] at HL;have hRd:R.data.toList=L:=by rw[hR,ci,hL]
 have hRs:R.size<=1000000:=by rw[hR];simp;omega
 have H:=lH h;have hdd:∀n,s.data.toList.drop (at_+n)=L.drop n:=fun n=>by rw[hL,uo]
 have HDD:=lH hdd;have HL0:=lH hL;have HRD:=lH hRd;have HV:=lH hV;clear h hL hR hRd hdd hV;go_enter Tryz.func195,Tryz.ntmps195
 go_wp2_with fail
 refine HL.out.mono ?_;rintro e1 w1 ⟨rfl,hb1⟩;have HB1:=lH (aw hb1);clear hb1;go_wp2_with fail
 refine(lE R w1).mono ?_;rintro e2 w2 ⟨rfl,hw2⟩;have HA2:Hid (ax w2 w1.heap.size R 0):=⟨by rw[hw2];exact ac.new _ _ _,tX _⟩;have HB2:Hid (Below w1.heap.size w1 w2):=by show Below _ _ _;rw[hw2];exact(tU _ _).alloc (nR _) _
 clear hw2;go_wp2_with fail
 refine(eh HA2.out hRs).mono ?_;rintro e3 w3 ⟨rfl,hc3,ht3⟩;rw[us,HRD.out,uJ] at hc3;have HA3:=lH hc3;have HB3:Hid (Below w.heap.size w w3):=HB1.out.trans ((HB2.out.mono HB1.out.size).trans (ht3.below (fun k _ hk=>by rw[show k=w1.heap.size from hk];exact HB1.out.size) (nT HB1.out.size HB2.out.size)));clear hc3 ht3;go_wp2_with fail
 refine(iq HA3.out hRs 61).mono ?_;rintro e4 w4 ⟨rfl,hc4,ht4⟩;rw[HRD.out];have HB4:Hid (Below w.heap.size w w4):=HB3.out.trans (ht4.below (fun k _ hk=>by rw[show k=w1.heap.size from hk];exact HB1.out.size) HB3.out.size);clear hc4 ht4;cases hb:mK 61 (L.drop (ai L)) with
 | false=>
   have HVE:Hid (V=some 0):=by
    show _=_;rw[HV.out];unfold ji;cases hd:L.drop (ai L) with
    | nil=>rfl
    | cons b r=>
      simp only;rw[if_neg];rintro rfl;rw[hd] at hb;have h2:=(fx (n:=61) (c:=61) rfl).2 ⟨r,rfl⟩;rw[hb] at h2;cases h2
   clear hb;go_wp2_with fail
   go_ret2
   rw[HVE.out];exact⟨_,at_,rfl,H.out.call HB4.out,(fun n e=>by cases e;rfl),aa.of_below HB4.out⟩
 | true=>
   obtain⟨r,hr⟩:=(fx (c:=61) rfl).1 hb;have hrl:=dC hr;have hr2:L.drop (ai L+1)=r:=by rw[<-uo,hr];rfl
   have HVE:Hid (V=if 0<bw (r.drop (ai r)) then some (ai L+1+ai r+bw (r.drop (ai r))) else (ma (r.drop (ai r))).map (fun p=>ai L+1+ai r+p.1)):=by
    show _=_;rw[HV.out];unfold ji;rw[hr];rfl
   have H4:=lH (H.out.call HB4.out);have hskr:=dn r;have e2:s.data.toList.drop (at_+ai L)=61 :: r:=by rw[HDD.out,hr]
   have e3:s.data.toList.drop (at_+ai L+1)=r:=by rw[uY,HDD.out,hr2]
   have e4:s.data.toList.drop (at_+ai L+1+ai r)=r.drop (ai r):=by rw[<-uo,e3]
   have E2:=lH e2;have E3:=lH e3;have E4:=lH e4;clear hb hr hr2 e2 e3 e4;go_wp2_with fail
   refine(eh H4.out hs).mono ?_;rintro e5 w5 ⟨rfl,hc5,ht5⟩;rw[<-HL0.out] at hc5;have H5:=lH hc5;have T5:=lH (aK (P:=dW g) (aa.of_below HB4.out) ht5 (fun _ _ h=>h));clear hc5 ht5;go_wp2_with fail
   refine(iq H5.out hs 61).mono ?_;rintro e6 w6 ⟨rfl,hc6,ht6⟩;have hi:mK 61 (s.data.toList.drop (at_+ai L))=true:=by rw[E2.out];exact(fx (c:=61) rfl).2 ⟨_,rfl⟩
   rw[hi,if_pos rfl] at hc6;have H6:=lH hc6;have T6:=lH (T5.out.trans ht6);clear hc6 ht6 hi;go_wp2_with fail
   refine(eh H6.out hs).mono ?_;rintro e7 w7 ⟨rfl,hc7,ht7⟩;rw[E3.out] at hc7;have H7:=lH hc7;have T7:=lH (T6.out.trans ht7);clear hc7 ht7;go_wp2_with fail
   refine(eN H7.out hs).mono ?_;rintro e8 w8 ⟨rfl,hc8,ht8⟩;have hte:=pY (s:=s) (a:=at_+ai L+1+ai r) hc8.le;rw[E4.out] at hte hc8;rw[E4.out];obtain⟨X,hX⟩:∃X,X=s.extract (at_+ai L+1+ai r) (at_+ai L+1+ai r+bw (r.drop (ai r))):=⟨_,rfl⟩;rw[<-hX] at hte ⊢;have H8:=lH hc8;have T8:=lH (T7.out.trans ht8);clear hX hc8 ht8;by_cases h0:bw (r.drop (ai r))=0
   ·have he:X.toList.isEmpty=true:=by rw[hte];exact dT h0
    have HVE2:Hid (V=(ma (r.drop (ai r))).map (fun p=>ai L+1+ai r+p.1)):=by show _=_;rw[HVE.out,if_neg (by omega)]
    have H9:Hid (ax w8 g s (at_+ai L+1+ai r)):=by
     have:=H8.out;rw[h0] at this;exact this
    clear hte h0;go_wp2_with fail
    refine(m8 H9.out hs (Q:=ma (r.drop (ai r))) (by rw[E4.out])).mono ?_;rintro e9 w9 ⟨rfl,hc9,ht9⟩;have H10:=lH hc9;have T10:=lH (T8.out.trans ht9);clear hc9 ht9;have hVs:V.isSome=(ma (r.drop (ai r))).isSome:=by rw[HVE2.out];cases ma (r.drop (ai r))<;>rfl
    have HVS:=lH hVs;obtain⟨q,hq⟩:∃q,q=(ma (r.drop (ai r))).isSome:=⟨_,rfl⟩;rw[<-hq] at HVS ⊢;clear hVs hq;go_wp2_with fail
    go_ret2
    rw[HVS.out];refine⟨_,_,rfl,H10.out,fun n e=>?_,T10.out⟩;rw[HVE2.out] at e;cases hq:ma (r.drop (ai r)) with
    | none=>rw[hq] at e;cases e
    | some p=>
      rw[hq] at e;cases e
      show at_+ai L+1+ai r+p.1=at_+(ai L+1+ai r+p.1);omega
   ·have he:X.toList.isEmpty=false:=by rw[hte];exact dF h0
    have HVE2:Hid (V=some (ai L+1+ai r+bw (r.drop (ai r)))):=by show _=_;rw[HVE.out,if_pos (by omega)]
    clear hte h0;go_wp2_with fail
    go_ret2
    rw[HVE2.out];exact⟨_,_,rfl,H8.out,(fun n e=>by cases e;omega),T8.out⟩
end Go.Proofs.YthjbodpeckebiaaGreatDoor
-- Pars
namespace Go.Proofs.YthjbodpeckebiaaGreatDoor
open Go.RowKit
theorem ax.far {w:World} {g:Nat} {s:ByteArray} {a bb:Nat} (h:ax w g s a) (hp:¬dW g bb) (u:Value):ax (w.setCell ⟨bb,0,none⟩ u) g s a:=⟨h.k.far (p:=⟨bb,0,none⟩) (fun e=>hp e.symm) u,h.le⟩
theorem il {w:World} {g:Nat} {x:Bool} (h:ac w g #[.bool x] 4) (y:Bool):ac (w.setCell ⟨g,0,none⟩ (.bool y)) g #[.bool y] 4:=by
 have:=h.set 0 (.bool y);simpa using this
theorem jK {w:World} {g:Nat} {x:Value} (h:ac w g #[x] 171) (y:Value):ac (w.setCell ⟨g,0,none⟩ y) g #[y] 171:=by
 have:=h.set 0 y;simpa using this
def kM (w:World) (B:Nat) (v:Value) (l:List Fd):Prop:=w.ownsRow B 191 2 v l.length (bH l)
theorem mI:(Tryz.prog.info? 191).map (fun i=>(i.zero,i.size,i.bytes))=some (some (.agg #[.string ⟨#[]⟩,.string ⟨#[]⟩]),2,32):=by kernel_rfl
theorem d6 {w:World} {B:Nat} {v:Value} {l:List Fd} (h:kM w B v l):∀k,v.ownBlock=some k->B<=k/\∃cs,w.heap[k]? = some (.cells cs 191 (0,0)):=by
 intro k hk;obtain⟨_,h2⟩:=h;rcases h2 with ⟨rfl,_⟩|⟨g',cap,cur,rfl,hB,hg,_⟩
 ·cases hk
 ·have:g'=k:=by injection hk
  subst this;exact⟨hB,cur,hg⟩
theorem dQ {ops:Array Oper} {rest:List Oper} {o:Oper} {a:Act} {Q:Exit->Act->World->Prop} (hgd:o.guard=none) (s x:Operand)
 (ho:o.op=.call { callee:=.builtin .append,args:=#[s,x],argTypes:=#[171,171] }) {w:World} {B:Nat} {v:Value} {l:List Fd} (hs:a.eval s=v) (hown:kM w B v l) (y1 y2:ByteArray)
 (H:Nat) (hH:w.heap.size=H) (hx:a.eval x=.slice (some ⟨H,0,none⟩) 1 1) (hl:l.length<=1000000) (hB:B<=w.heap.size)
 (h:∀p c w1,kM w1 B (.slice p (l.length+1) c) (l++[(y1,y2)])->aa (fun k=>v.ownBlock=some k) w w1->wpList Tryz.prog ops Q rest (a.put o.dst (.slice p (l.length+1) c)) w1):
 wpList Tryz.prog ops Q (o :: rest) a (w.alloc (.cells #[.string y1,.string y2] 191)):=by
 subst hH;obtain⟨i0,hi,hz0,hz1,hz2⟩:=info_parts mI;have hown':World.ownsRow (w.alloc (.cells #[.string y1,.string y2] 191)) B 191 2 v l.length (bH l):=World.ownsRow.alloc hown _;refine wpList_append_own _ hgd s x 171 ho B 191 i0 _ 2 32 Tryz.underlying171 hi hz0 hz1 hz2 rfl (by decide) v l.length (bH l) hs hown' ⟨w.heap.size,0,none⟩ 1 1 [.string y1,.string y2] hx rfl ?c1 ?c2 ?c3 ?c4 ?c5 ?_;case c1=>exact World.news_of_block (cs:=#[.string y1,.string y2]) (t:=191) (fr:=(0,0)) (heap_alloc_new w _)
 case c2=>simp[Value.oneCell']
 case c3=>unfold maxLen;omega
 case c4=>omega
 case c5=>simp;omega
 intro v' w1 hown1 hg _;obtain⟨p',c',rfl⟩:=aV hown1;refine h p' c' w1 ?_ (((aa.refl _ w).alloc (.cells #[.string y1,.string y2] 191)).trans ⟨hg.os,hg.tape,hg.output,hg.size,fun k hk hne=>hg.block k hk (fun e=>hne e.symm)⟩);show w1.ownsRow B 191 2 _ (l++[(y1,y2)]).length (bH (l++[(y1,y2)]));rw[ue,lk];exact hown1
def PrP (g bb bl:Nat) (v:Value) (k:Nat):Prop:=dW g k\/k=bb\/k=bl\/v.ownBlock=some k
def fh (w:World) (g bc bb bl B a4:Nat) (s:ByteArray) (v:Value) (l:List Fd) (b1 t0 vs:Bool) (V:Option Nat) (e:Ending) (w':World):Prop:=
 ∃a5 E v' q,e=.returned (.bool (b1&&(!t0&&(vs&&E))))/\ax w' g s a5/\(∀n,V=some n->a5=a4+n)/\(b1=true->t0=false->vs=true->E=!(s.data.toList.drop a5).isEmpty)/\
  ac w' bc #[.pointer (some ⟨g,0,none⟩)] 203/\ac w' bb #[.bool (!(b1&&(!t0&&vs)))] 4/\ac w' bl #[v'] 171/\kM w' B v' (l++[q])/\aa (PrP g bb bl v) w w'
theorem pc (w:World) (g bc bb bl B at_ a1 a2 a3 a4 t:Nat) (s:ByteArray) (hs:s.size<=1000000) (v:Value) (l:List Fd) (H:Hid (ax w g s at_)) (KC:Hid (ac w bc #[.pointer (some ⟨g,0,none⟩)] 203)) (KB:Hid (ac w bb #[.bool false] 4)) (KL:Hid (ac w bl #[v] 171))
 (HO:Hid (kM w B v l)) (hBl:Hid (bl<B/\bb<B/\g<B/\bc<B)) (HBZ:Hid (B<=w.heap.size)) (HLL:Hid (l.length<=1000000))
 (NE:Hid (¬dW g bc/\¬dW g bb/\¬dW g bl/\bc≠bb/\bl≠bb/\bc≠bl)) (b1 t0 vs:Bool) (V:Option Nat) (X NM:ByteArray)
 (HA1:Hid (a1=at_+ai (s.data.toList.drop at_))) (HB1:Hid (mK 59 (s.data.toList.drop a1)=b1)) (HA2:Hid (a2=a1+if b1=true then 1 else 0)) (HA3:Hid (a3=a2+ai (s.data.toList.drop a2))) (HT:Hid (t=bw (s.data.toList.drop a3))) (HA4:Hid (a4=a3+t))
 (HX:Hid (X=s.extract a3 a4)) (HXS:Hid (X.size<=1000000)) (HNM:Hid (NM=aS X)) (hne:NM.toList.isEmpty=t0) (HV:Hid (V=ji (s.data.toList.drop a4))) (HVS:Hid (V.isSome=vs)):
 Calls Tryz.prog 192 #[.pointer (some ⟨bc,0,none⟩),.pointer (some ⟨bb,0,none⟩),.pointer (some ⟨bl,0,none⟩)] w (fh w g bc bb bl B a4 s v l b1 t0 vs V):=by
 have c0:=KC.out.cell 0;have b0:=KB.out.cell 0;have l0:=KL.out.cell 0;have f0:=KB.out.froz 0;have f1:=KL.out.froz 0;simp at c0 b0 l0;have HLT:Hid (∀k,v.ownBlock=some k->B<=k/\k<w.heap.size):=fun k hk=>by obtain⟨h1,cs,h2⟩:=d6 HO.out k hk;exact⟨h1,(ua.1 h2).1⟩
 have NG:Hid (∀k,v.ownBlock=some k->¬dW g k):=fun k hk e=>by have h1:=(HLT.out k hk).1;have h2:=hBl.out.2.2.1;rw[show k=g from e] at h1;omega
 cases b1<;>cases t0
 all_goals (
  go_enter Tryz.func192,Tryz.ntmps192
  go_wp2_with fail
  refine(eh H.out hs).mono ?_;rintro e1 w1 ⟨rfl,hc1,ht1⟩;rw[<-HA1.out] at hc1;have H1:=lH hc1;have T1:Hid (aa (PrP g bb bl v) w w1):=ht1.mono (fun _ _ h=>Or.inl h);have K1:=lH (KC.out.touch ht1 NE.out.1);have B1:=lH (KB.out.touch ht1 NE.out.2.1);have L1:=lH (KL.out.touch ht1 NE.out.2.2.1);have O1:=lH (ab HO.out ht1 NG.out);clear hc1 ht1 c0 b0 l0 f0 f1;have c0:=K1.out.cell 0;have b0:=B1.out.cell 0;have f0:=B1.out.froz 0;simp at c0 b0;go_wp2_with fail
  refine(iq H1.out hs 59).mono ?_;rintro e2 w2 ⟨rfl,hc2,ht2⟩;rw[HB1.out]
  have hc2:ax w2 g s a2:=by
   have h:=HA2.out;rw[HB1.out] at hc2;(try simp at hc2)
   (try simp at h)
   rw[h];exact hc2
  have H2:=lH hc2;have T2:=lH (aK T1.out ht2 (fun _ _ h=>Or.inl h));have K2:=lH (K1.out.touch ht2 NE.out.1);have B2:=lH (B1.out.touch ht2 NE.out.2.1);have L2:=lH (L1.out.touch ht2 NE.out.2.2.1);have O2:=lH (ab O1.out ht2 NG.out);clear hc2 ht2 c0 b0 f0;have c0:=K2.out.cell 0;have b0:=B2.out.cell 0;have f0:=B2.out.froz 0;have c1:=(K2.out.far (p:=⟨bb,0,none⟩) NE.out.2.2.2.1 (.bool true)).cell 0;have c2:=(K2.out.far (p:=⟨bb,0,none⟩) NE.out.2.2.2.1 (.bool false)).cell 0;simp at c0 b0 c1 c2;go_wp2_with fail
  refine(eh (H2.out.far NE.out.2.1 (.bool _)) hs).mono ?_;rintro e3 w3 ⟨rfl,hc3,ht3⟩;rw[<-HA3.out] at hc3;have H3:=lH hc3;have T3:=lH (aK (T2.out.setCell (p:=⟨bb,0,none⟩) (Or.inr (Or.inl rfl)) _) ht3 (fun _ _ h=>Or.inl h));have K3:=lH ((K2.out.far (p:=⟨bb,0,none⟩) NE.out.2.2.2.1 _).touch ht3 NE.out.1);have B3:=lH ((il B2.out _).touch ht3 NE.out.2.1);have L3:=lH ((L2.out.far (p:=⟨bb,0,none⟩) NE.out.2.2.2.2.1 _).touch ht3 NE.out.2.2.1);have O3:=lH (ab (ab O2.out (aa.setCell (P:=fun k=>k=bb) (p:=⟨bb,0,none⟩) (aa.refl _ _) rfl (.bool _)) (fun k hk e=>by have h1:=(HLT.out k hk).1;have h2:=hBl.out.2.1;omega)) ht3 NG.out);clear hc3 ht3 c0 b0 f0 c1 c2;have c0:=K3.out.cell 0;simp at c0;go_wp2_with fail
  refine(eN H3.out hs).mono ?_;rintro e4 w4 ⟨rfl,hc4,ht4⟩;rw[<-HT.out] at hc4 ⊢;rw[<-HA4.out] at hc4 ⊢;rw[<-HX.out];have H4:=lH hc4;have T4:=lH (aK T3.out ht4 (fun _ _ h=>Or.inl h));have K4:=lH (K3.out.touch ht4 NE.out.1);have B4:=lH (B3.out.touch ht4 NE.out.2.1);have L4:=lH (L3.out.touch ht4 NE.out.2.2.1);have O4:=lH (ab O3.out ht4 NG.out);clear hc4 ht4 c0;go_wp2_with fail
  refine(iH X HXS.out w4).mono ?_;rintro e5 w5 ⟨rfl,hb5⟩;rw[<-HNM.out];have hb6:Below w4.heap.size w4 (w5.alloc (.cells #[.string NM,.string ⟨#[]⟩] 191)):=hb5.alloc hb5.size _;have HP:Hid (ac (w5.alloc (.cells #[.string NM,.string ⟨#[]⟩] 191)) w5.heap.size #[.string NM,.string ⟨#[]⟩] 191):=ac.new _ _ _;have HGP:Hid (w.heap.size<=w5.heap.size):=nT T4.out.size hb5.size;have H6:=lH (H4.out.call hb6);have T6:=lH (aK T4.out (aa.of_below (P:=fun _=>False) hb6) (fun _ _ h=>h.elim));have K6:=lH (K4.out.call hb6);have B6:=lH (B4.out.call hb6);have L6:=lH (L4.out.call hb6);have O6:=lH (ab O4.out (aa.of_below (P:=fun _=>False) hb6) (fun _ _=>id))
  have NP:Hid (bc≠w5.heap.size/\bb≠w5.heap.size/\bl≠w5.heap.size/\g≠w5.heap.size):=by
   have h1:=hBl.out;have h2:=HBZ.out;have h3:=HGP.out;refine⟨?_,?_,?_,?_⟩<;>omega
  have b0:=B6.out.cell 0;have f0:=B6.out.froz 0;have p0:=HP.out.cell 0;have c0:=(K6.out.far (p:=⟨bb,0,none⟩) NE.out.2.2.2.1 (.bool true)).cell 0;have c1:=(K6.out.far (p:=⟨bb,0,none⟩) NE.out.2.2.2.1 (.bool false)).cell 0;simp at b0 p0 c0 c1;clear hb5 hb6;go_wp2_with fail
  refine(m4 (H6.out.far NE.out.2.1 (.bool _)) hs HV.out).mono ?_;rintro e8 w8 ⟨tx,a5,rfl,hc8,hV8,ht8⟩;rw[HVS.out];have H8:=lH hc8;have HV8:=lH hV8;have T8:=lH (aK (T6.out.setCell (p:=⟨bb,0,none⟩) (Or.inr (Or.inl rfl)) (.bool _)) ht8 (fun _ _ h=>Or.inl h));have K8:=lH ((K6.out.far (p:=⟨bb,0,none⟩) NE.out.2.2.2.1 (.bool _)).touch ht8 NE.out.1);have B8:=lH ((il B6.out _).touch ht8 NE.out.2.1);have L8:=lH ((L6.out.far (p:=⟨bb,0,none⟩) NE.out.2.2.2.2.1 (.bool _)).touch ht8 NE.out.2.2.1);have P8:=lH ((HP.out.far (p:=⟨bb,0,none⟩) NP.out.2.1.symm (.bool _)).touch ht8 (fun e=>NP.out.2.2.2 (show w5.heap.size=g from e).symm));have O8:=lH (ab (ab O6.out (aa.setCell (P:=fun k=>k=bb) (p:=⟨bb,0,none⟩) (aa.refl _ _) rfl (.bool _)) (fun k hk e=>by have h1:=(HLT.out k hk).1;have h2:=hBl.out.2.1;omega)) ht8 NG.out);have HZ8:Hid (w.heap.size<=w8.heap.size):=T8.out.size;clear hc8 hV8 ht8 b0 f0 p0 c0 c1;have fp1:=P8.out.froz 1;have cp1:=P8.out.cell 1
  have P9a:Hid (ac (w8.setCell ⟨w5.heap.size,1,none⟩ (.string tx)) w5.heap.size #[.string NM,.string tx] 191):=by
   have h:=P8.out.set 1 (.string tx);show ac _ _ _ _;simpa using h
  have B9a:=lH (B8.out.far (p:=⟨w5.heap.size,1,none⟩) NP.out.2.1 (.string tx));have L9a:=lH (L8.out.far (p:=⟨w5.heap.size,1,none⟩) NP.out.2.2.1 (.string tx));have K9a:=lH (K8.out.far (p:=⟨w5.heap.size,1,none⟩) NP.out.1 (.string tx));have H9a:Hid (ax (w8.setCell ⟨w5.heap.size,1,none⟩ (.string tx)) g s a5):=⟨H8.out.k.far (p:=⟨w5.heap.size,1,none⟩) NP.out.2.2.2 (.string tx),H8.out.le⟩;have O9a:=lH (ab O8.out (aa.setCell (P:=fun k=>k=w5.heap.size) (p:=⟨w5.heap.size,1,none⟩) (aa.refl _ _) rfl (.string tx)) (fun k hk e=>by have h1:=(HLT.out k hk).2;have h2:=HGP.out;omega));have T9a:Hid (aa (PrP g bb bl v) w (w8.setCell ⟨w5.heap.size,1,none⟩ (.string tx))):=aK T8.out (aa.setCell (P:=fun k=>k=w5.heap.size) (p:=⟨w5.heap.size,1,none⟩) (aa.refl _ _) rfl (.string tx)) (fun i hi e=>by have h2:=HGP.out;omega);cases vs
  ·
   have b9:=B9a.out.cell 0;have f9:=B9a.out.froz 0;simp at b9;have P9:=lH (P9a.out.far (p:=⟨bb,0,none⟩) NP.out.2.1.symm (.bool true));have B9:=lH (il B9a.out true);have L9:=lH (L9a.out.far (p:=⟨bb,0,none⟩) NE.out.2.2.2.2.1 (.bool true));have K9:=lH (K9a.out.far (p:=⟨bb,0,none⟩) NE.out.2.2.2.1 (.bool true));have H9:=lH (H9a.out.far NE.out.2.1 (.bool true));have O9:Hid (kM ((w8.setCell ⟨w5.heap.size,1,none⟩ (.string tx)).setCell ⟨bb,0,none⟩ (.bool true)) B v l):=(ab O9a.out (aa.setCell (P:=fun k=>k=bb) (p:=⟨bb,0,none⟩) (aa.refl _ _) rfl (.bool true)) (fun k hk e=>by have h1:=(HLT.out k hk).1;have h2:=hBl.out.2.1;omega));have T9:=lH (T9a.out.setCell (p:=⟨bb,0,none⟩) (Or.inr (Or.inl rfl)) (.bool true));have l0:=L9.out.cell 0;obtain⟨q0,q1⟩:=bc2 P9.out 0 1;simp at cp1 l0 q0 q1;have HZ9:Hid (B<=((w8.setCell ⟨w5.heap.size,1,none⟩ (.string tx)).setCell ⟨bb,0,none⟩ (.bool true)).heap.size):=nT HBZ.out T9.out.size;go_wp2_with (at_builtin;refine dQ rfl _ _ rfl rfl O9.out NM tx _ (by simp) rfl HLL.out HZ9.out ?_;intro p10 c10 w10 ho10 ht10;have O10:=lH ho10;have L10:=lH (L9.out.touch ht10 (fun e=>by have h1:=(HLT.out bl e).1;have h2:=hBl.out.1;omega));have B10:=lH (B9.out.touch ht10 (fun e=>by have h1:=(HLT.out bb e).1;have h2:=hBl.out.2.1;omega));have K10:=lH (K9.out.touch ht10 (fun e=>by have h1:=(HLT.out bc e).1;have h2:=hBl.out.2.2.2;omega));have H10:Hid (ax w10 g s a5):=⟨H9.out.k.touch ht10 (fun e=>by have h1:=(HLT.out g e).1;have h2:=hBl.out.2.2.1;omega),H9.out.le⟩;have T10:=lH (aK T9.out ht10 (fun _ _ h=>Or.inr (Or.inr (Or.inr h))));have k10:=L10.out.cell 0;have g10:=L10.out.froz 0;have B11:=lH (B10.out.far (p:=⟨bl,0,none⟩) NE.out.2.2.2.2.1.symm (.slice p10 (l.length+1) c10));have K11:=lH (K10.out.far (p:=⟨bl,0,none⟩) NE.out.2.2.2.2.2 (.slice p10 (l.length+1) c10));have H11:=lH (H10.out.far NE.out.2.2.1 (.slice p10 (l.length+1) c10));have u10:=B11.out.cell 0;have v10:=K11.out.cell 0;simp at k10 u10 v10;clear ho10 ht10)
   go_ret;have L11:=jK L10.out (.slice p10 (l.length+1) c10);have O11:=ab O10.out (aa.setCell (P:=fun k=>k=bl) (p:=⟨bl,0,none⟩) (aa.refl _ _) rfl (.slice p10 (l.length+1) c10)) (fun k hk e=>by have h1:=(d6 O10.out k hk).1;have h2:=hBl.out.1;omega);unfold fh;refine⟨a5,false,_,(NM,tx),rfl,H11.out,HV8.out,(by intro h1 h2 h3;first|(cases h1;done)|(cases h2;done)|(cases h3;done)),K11.out,B11.out,L11,?_,?_⟩
   ·exact O11
   ·exact T10.out.setCell (p:=⟨bl,0,none⟩) (Or.inr (Or.inr (Or.inl rfl))) _)
 all_goals (
  have P9:=P9a;have B9:=B9a;have L9:=L9a;have K9:=K9a;have H9:=H9a;have T9:=T9a;have O9:Hid (kM (w8.setCell ⟨w5.heap.size,1,none⟩ (.string tx)) B v l):=O9a;have l0:=L9.out.cell 0;obtain⟨q0,q1⟩:=bc2 P9.out 0 1;simp at cp1 l0 q0 q1;have HZ9:Hid (B<=(w8.setCell ⟨w5.heap.size,1,none⟩ (.string tx)).heap.size):=nT HBZ.out T9.out.size;go_wp2_with (at_builtin;refine dQ rfl _ _ rfl rfl O9.out NM tx _ (by simp) rfl HLL.out HZ9.out ?_;intro p10 c10 w10 ho10 ht10;have O10:=lH ho10;have L10:=lH (L9.out.touch ht10 (fun e=>by have h1:=(HLT.out bl e).1;have h2:=hBl.out.1;omega));have B10:=lH (B9.out.touch ht10 (fun e=>by have h1:=(HLT.out bb e).1;have h2:=hBl.out.2.1;omega));have K10:=lH (K9.out.touch ht10 (fun e=>by have h1:=(HLT.out bc e).1;have h2:=hBl.out.2.2.2;omega));have H10:Hid (ax w10 g s a5):=⟨H9.out.k.touch ht10 (fun e=>by have h1:=(HLT.out g e).1;have h2:=hBl.out.2.2.1;omega),H9.out.le⟩;have T10:=lH (aK T9.out ht10 (fun _ _ h=>Or.inr (Or.inr (Or.inr h))));have k10:=L10.out.cell 0;have g10:=L10.out.froz 0;have B11:=lH (B10.out.far (p:=⟨bl,0,none⟩) NE.out.2.2.2.2.1.symm (.slice p10 (l.length+1) c10));have K11:=lH (K10.out.far (p:=⟨bl,0,none⟩) NE.out.2.2.2.2.2 (.slice p10 (l.length+1) c10));have H11:=lH (H10.out.far NE.out.2.2.1 (.slice p10 (l.length+1) c10));have u10:=B11.out.cell 0;have v10:=K11.out.cell 0;simp at k10 u10 v10;clear ho10 ht10)
  first
   | (
    refine(jw H11.out hs).mono ?_;rintro e12 w12 ⟨rfl,hb12⟩;have HB12:=lH hb12;clear hb12;go_wp2_with fail
    go_ret;have L11:=jK L10.out (.slice p10 (l.length+1) c10);have O11:=ab O10.out (aa.setCell (P:=fun k=>k=bl) (p:=⟨bl,0,none⟩) (aa.refl _ _) rfl (.slice p10 (l.length+1) c10)) (fun k hk e=>by have h1:=(d6 O10.out k hk).1;have h2:=hBl.out.1;omega);unfold fh;refine⟨a5,_,_,(NM,tx),rfl,H11.out.call HB12.out,HV8.out,fun _ _ _=>rfl,K11.out.call HB12.out,B11.out.call HB12.out,L11.call HB12.out,?_,?_⟩
    ·have h:=ab O11 (aa.of_below (P:=fun _=>False) HB12.out) (fun _ _=>id)
     exact h
    ·exact aK (T10.out.setCell (p:=⟨bl,0,none⟩) (Or.inr (Or.inr (Or.inl rfl))) _) (aa.of_below (P:=fun _=>False) HB12.out) (fun _ _ h=>h.elim))
   | (
    go_ret;have L11:=jK L10.out (.slice p10 (l.length+1) c10);have O11:=ab O10.out (aa.setCell (P:=fun k=>k=bl) (p:=⟨bl,0,none⟩) (aa.refl _ _) rfl (.slice p10 (l.length+1) c10)) (fun k hk e=>by have h1:=(d6 O10.out k hk).1;have h2:=hBl.out.1;omega);unfold fh;refine⟨a5,false,_,(NM,tx),rfl,H11.out,HV8.out,(by intro h1 h2 h3;first|(cases h1;done)|(cases h2;done)|(cases h3;done)),K11.out,B11.out,L11,?_,?_⟩
    ·exact O11
    ·exact T10.out.setCell (p:=⟨bl,0,none⟩) (Or.inr (Or.inr (Or.inl rfl))) _))
end Go.Proofs.YthjbodpeckebiaaGreatDoor
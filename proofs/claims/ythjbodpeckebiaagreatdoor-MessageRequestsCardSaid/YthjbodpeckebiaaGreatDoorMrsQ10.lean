/- Texts packed for one claim, 10 of 52: UnfoldP UnfoldJ Unfold UnfoldR. -/
import Derived.Test.YthjbodpeckebiaaGreatDoorMrsQ8
import Derived.Test.YthjbodpeckebiaaGreatDoorMrsQ4
import Derived.Test.YthjbodpeckebiaaGreatDoorMrsQ9
import Derived.Test.YthjbodpeckebiaaGreatDoorMrsQ7
import Derived.Test.YthjbodpeckebiaaGreatDoorMrsQ2
set_option maxRecDepth 100000
set_option maxHeartbeats 16000000
set_option linter.unusedSimpArgs false
set_option linter.unusedVariables false
-- UnfoldP
namespace Go.Proofs.YthjbodpeckebiaaGreatDoor
open Go.RowKit
def lu (a b:ByteArray):ByteArray:=iS a++⟨#[32]⟩++aX b
def dL (fold:Int):Option (List ByteArray)->ByteArray->Option (List ByteArray)
 | none,_=>none
 | some out,line=>if gY line=false then some (out++[line]) else if fold=0\/out=[] then none else some (out.set (out.length - 1) (lu (out.getD (out.length - 1) ⟨#[]⟩) line))
def cY (fold:Int) (l:List ByteArray):Option (List ByteArray):=l.foldl (dL fold) (some [])
theorem ip (fold:Int) (l:List ByteArray) (k:Nat) (h:k<l.length):cY fold (l.take (k+1))=dL fold (cY fold (l.take k)) l[k]:=by
 unfold cY;rw[E8 h,List.foldl_append];rfl
theorem nw (fold:Int):∀l:List ByteArray,l.foldl (dL fold) none=none
 | []=>rfl
 | a :: l=>by rw[List.foldl_cons];exact nw fold l
theorem nV (fold:Int) (l:List ByteArray) (k:Nat) (h:cY fold (l.take k)=none):cY fold l=none:=by
 have e:l=l.take k++l.drop k:=(Gp k l).symm;unfold cY at h ⊢;rw[e,List.foldl_append,h];exact nw fold _
theorem ik (fold:Int) (l:List ByteArray):∀k,k<=l.length->∀out,cY fold (l.take k)=some out->out.length<=k/\(0<k->0<out.length):=by
 intro k;induction k with
 | zero=>intro _ out h;cases (show some []=some out from h);exact⟨nR _,fun h=>absurd h (Nat.lt_irrefl _)⟩
 | succ k ih=>
   intro hk out h;rw[ip fold l k (by omega)] at h;cases ho:cY fold (l.take k) with
   | none=>rw[ho] at h;cases h
   | some o=>
     have hi:=ih (by omega) o ho;rw[ho] at h;simp only[dL] at h;split at h
     ·cases h;rw[EY];simp only[GL];omega
     ·split at h
      ·cases h
      ·rename_i hne
       cases h
       have:o≠[]:=fun e=>hne (Or.inr e);have:0<o.length:=by cases o with|nil=>exact absurd rfl this|cons a t=>simp
       rw[List.length_set];omega
theorem iC (l:List UInt8):(cO l).length<=l.length:=by
 unfold cO;rw[List.length_reverse];exact nT (List.dropWhile_sublist _).length_le (by rw[List.length_reverse];exact(List.dropWhile_sublist _).length_le)
theorem fL (s:ByteArray):(aX s).size<=s.size:=by
 have h1:(cO s.data.toList).length<=s.data.toList.length:=iC _;show (cO s.data.toList).toArray.size<=_;simpa using h1
theorem uX (a b:ByteArray):(lu a b).size<=a.size+b.size+1:=by
 have h1:=lF a;have h2:=fL b;unfold lu;rw[F7,F7];have:(⟨#[32]⟩:ByteArray).size=1:=rfl;omega
def dX (l:List ByteArray):Nat:=(l.map fun x=>x.size).sum
theorem ic (l:List ByteArray) (x:ByteArray):dX (l++[x])=dX l+x.size:=by unfold dX;simp
theorem bX (l:List ByteArray) (x:ByteArray):dX (x :: l)=x.size+dX l:=by unfold dX;simp
theorem rQ {l:List ByteArray} {x:ByteArray} (h:x∈l):x.size<=dX l:=by
 induction l with
 | nil=>cases h
 | cons a l ih=>
   rw[bX];rcases GT.1 h with rfl|h
   ·omega
   ·have:=ih h;omega
theorem wJ (y:ByteArray):∀(l:List ByteArray) (i:Nat) (h:i<l.length),dX (l.set i y)+l[i].size=dX l+y.size
 | [],_,h=>absurd h (FS _)
 | a :: l,0,_=>by simp only[lZ,bX,List.getElem_cons_zero];omega
 | a :: l,i+1,h=>by
   have:=wJ y l i (by simpa using h);simp only[lC,bX,List.getElem_cons_succ];omega
theorem Au (l:List ByteArray) (k:Nat):dX (l.take k)<=dX l:=by
 have h:l=l.take k++l.drop k:=(Gp k l).symm
 have:dX l=dX (l.take k)+dX (l.drop k):=by
  conv=>lhs;rw[h]
  unfold dX;rw[Fo,List.sum_append]
 omega
theorem pN (fold:Int) (l:List ByteArray):∀k,k<=l.length->∀out,cY fold (l.take k)=some out->dX out<=dX (l.take k)+k:=by
 intro k;induction k with
 | zero=>intro _ out h;cases (show some []=some out from h);exact EN _
 | succ k ih=>
   intro hk out h;rw[ip fold l k (by omega)] at h;rw[E8 (by omega),ic];cases ho:cY fold (l.take k) with
   | none=>rw[ho] at h;cases h
   | some o=>
     have hi:=ih (by omega) o ho;rw[ho] at h;simp only[dL] at h;split at h
     ·cases h
      rw[ic];omega
     ·split at h
      ·cases h
      ·rename_i hne
       cases h
       have hne':o≠[]:=fun e=>hne (Or.inr e);have h0:o.length - 1<o.length:=by cases o with|nil=>exact absurd rfl hne'|cons a t=>simp
       have hl:o.getD (o.length - 1) ⟨#[]⟩=o[o.length - 1]:=by rw[List.getD_eq_getElem?_getD,EM h0];rfl
       have hj:=uX (o.getD (o.length - 1) ⟨#[]⟩) l[k];have:=wJ (lu (o.getD (o.length - 1) ⟨#[]⟩) l[k]) o (o.length - 1) h0;rw[hl] at *;omega
theorem kL {fold:Int} {l:List ByteArray} {k:Nat} {out:List ByteArray} (hk:k<=l.length) (h:cY fold (l.take k)=some out) {x:ByteArray} (hx:x∈out):x.size<=dX l+l.length:=by
 have h1:=pN fold l k hk out h;have h2:=Au l k;have h3:=rQ hx;omega
end Go.Proofs.YthjbodpeckebiaaGreatDoor
-- UnfoldJ
namespace Go.Proofs.YthjbodpeckebiaaGreatDoor
open Go.RowKit
theorem Aa (line x:ByteArray) (b m:Nat) (l:List ByteArray) (v:Value) (w:World) (hk:af w b #[v] 22) (hv:ap w (b+1) v l) (h0:l.length=m+1) (hx:l[m]? = some x) (hm:m<1000000) (hxs:x.size<=1000000) (hls:line.size<=1000000):
 Calls Tryz.prog 170 #[.string line,.pointer (some ⟨b,0,none⟩)] w fun e w'=>e=.returned (.tuple #[])/\af w' b #[v] 22/\ap w' (b+1) v (l.set m (lu x line))/\Below b w w':=by
 obtain⟨g,cap,cur,rfl,hgb,hg,hcl,htk⟩:=hv.block (by omega);have hne:g≠b:=by omega
 have hG:af w g cur 9:=hg
 have hcm:cur[m]? = some (.string x):=by
  have a:(l.map Value.string)[m]? = some (.string x):=by rw[Gk,hx];rfl
  rw[<-htk,Gx,if_pos (by omega)] at a;simpa using a
 obtain⟨E,hE⟩:∃E,E=iS x:=⟨_,rfl⟩;have hEs:E.size<=x.size:=by rw[hE];exact lF x
 obtain⟨T,hT⟩:∃T,T=aX line:=⟨_,rfl⟩;have hTs:T.size<=line.size:=by rw[hT];exact fL line
 have hls1:(⟨#[32]⟩:ByteArray).size=1:=rfl;obtain⟨A,hA⟩:∃A,A=E++⟨#[32]⟩:=⟨_,rfl⟩;have hAs:A.size=E.size+1:=by rw[hA,F7];rfl
 obtain⟨J,hJ⟩:∃J,J=A++T:=⟨_,rfl⟩;have hJe:lu x line=J:=by rw[hJ,hA,hE,hT];rfl
 have hadd1:∀W:World,(Op.stringOp .add E ⟨#[32]⟩).run Tryz.prog W=.ok (.string A) W:=fun W=>(run_string_add_sum (P:=Tryz.prog) (w:=W) E ⟨#[32]⟩ (by omega)).trans (by rw[<-hA]);have hadd2:∀W:World,(Op.stringOp .add A T).run Tryz.prog W=.ok (.string J) W:=fun W=>(run_string_add_sum (P:=Tryz.prog) (w:=W) A T (by omega)).trans (by rw[<-hJ]);have H1:Hid (∀W:World,Calls Tryz.prog 171 #[.string x,.string ⟨#[32,9]⟩] W fun e w'=>e=.returned (.string E)/\Below W.heap.size W w'):=fun W=>by rw[hE];exact zC x (by omega) W
 have H2:Hid (∀W:World,Calls Tryz.prog 172 #[.string line] W fun e w'=>e=.returned (.string T)/\W=w'):=fun W=>by rw[hT];exact kN line (by omega) W
 obtain⟨I,hIe⟩:∃I:World->Prop,I=fun x=>Below w.heap.size w x:=⟨_,rfl⟩;have HIO:=lH (show ∀x,I x->Below w.heap.size w x by rw[hIe];exact fun _ h=>h)
 have HIM:Hid (∀x x',I x->Below x.heap.size x x'->I x'):=by
  show ∀x x',I x->Below x.heap.size x x'->I x';rw[hIe];exact fun x x' h hb=>h.trans (hb.mono h.size)
 have hI0:I w.drew:=by rw[hIe];exact(EK _ _).drew
 have NI:Nonempty (Cl I):=⟨⟨_,hI0⟩⟩;have HI0:=lH hI0;have c0:w.cell? ⟨b,0,none⟩=some (.slice (some ⟨g,0,none⟩) l.length cap):=hk.cell 0;rw[h0] at c0;have q0:∀s:Cl I,s.val.cell? ⟨b,0,none⟩=some (.slice (some ⟨g,0,none⟩) (m+1) cap):=fun s=>by have:=(hk.call (HIO.out _ s.ok)).cell 0;rw[h0] at this;exact this
 have q1:∀s:Cl I,s.val.cell? ⟨g,m,none⟩=some (.string x):=fun s=>((hG.call (HIO.out _ s.ok)).cell m).trans hcm;have q2:∀s:Cl I,s.val.frozen? ⟨g,m,none⟩=false:=fun s=>(hG.call (HIO.out _ s.ok)).froz m;have HK:=lH hk;have HV:=lH hv;have HE:=lH hJe;have H0:=lH h0;have HN:=lH hne;have HGB:=lH hgb;clear hk hv hgb hg hG hcl htk hcm hE hEs hT hTs hA hAs hJ hJe hIe hI0 hx hxs hls hls1 hne h0;go_enter Tryz.func170,Tryz.ntmps170
 go_wp2_with fail
 refine fX 12 HI0.out (by kernel_rfl) (by kernel_rfl) ?_;simp only[Ft,FG,Fz,Ff]
 repeat go_big_quiet_step ((first
  | (go_at_call 171;exact Calls.cl_of ((H1.out _).mono fun _ _ ⟨a,b⟩=>⟨a,HIM.out _ _ (Cl.ok _) b⟩))
  | (go_at_call 172;exact Calls.cl_same (H2.out _))))
 refine FD ?_;rintro _ ⟨s,rfl⟩;go_wp2_with fail
 go_end0
 have hb:=HIO.out _ s.ok;have hv1:=HV.out.call hb;have hk1:=HK.out.call hb;refine⟨rfl,hk1.far HN.out.symm _,?_,(hb.mono (Nat.le_of_lt HK.out.lt)).setCell (by show b<=g;have:=HGB.out;omega) _⟩;rw[HE.out];have:=hv1.set m (by have:=H0.out;omega) J;rw[List.length_set] at this;exact this
end Go.Proofs.YthjbodpeckebiaaGreatDoor
-- Unfold
namespace Go.Proofs.YthjbodpeckebiaaGreatDoor
open Go.RowKit
def DU (o:Option (List ByteArray)):Int:=match o with|none=>3|some _=>0
def DK (w':World) (B:Nat) (v:Value):Option (List ByteArray)->Prop
 | none=>v=.slice none 0 0
 | some out=>ap w' B v out
theorem uK (fold:Int) (v:Value) (l:List ByteArray) (w:World) (h:cQ w v l) (hn:l.length<=500000) (ht:dX l<=500000):
 Calls Tryz.prog 139 #[.int .i64 fold,v] w fun e w'=>∃v',e=.returned (.tuple #[v',.int .i64 (DU (cY fold l))])/\DK w' w.heap.size v' (cY fold l)/\Below w.heap.size w w':=by
 obtain⟨p,c,rfl,hc⟩:=h
 have hc':∀k (hk:k<l.length) (W:World),Below w.heap.size w W->∃b off,p=some ⟨b,off,none⟩/\W.cell? ⟨b,off+k,none⟩=some (.string l[k]):=fun k hk W hW=>by
  obtain⟨b,off,hp,h1⟩:=hc k hk;exact⟨b,off,hp,(bL hW b _ (ET w _ h1)).trans h1⟩
 have HC:=lH hc';have HT:=lH ht;obtain⟨F,hF⟩:∃F,F=cY fold:=⟨_,rfl⟩;have hF0:F (l.take 0)=some []:=by rw[hF];rfl
 have HF0:=lH hF0;have hFs:∀k (hk:k<l.length),F (l.take (k+1))=dL fold (F (l.take k)) l[k]:=by rw[hF];exact fun k hk=>ip fold l k hk
 have HFS:=lH hFs;have hFn:∀k,F (l.take k)=none->F l=none:=by rw[hF];exact fun k=>nV fold l k
 have HFN:=lH hFn;have hFl:∀k,k<=l.length->∀out,F (l.take k)=some out->out.length<=k/\(0<k->0<out.length):=by rw[hF];exact ik fold l
 have HFL:=lH hFl;have hFt:∀k,k<=l.length->∀out,F (l.take k)=some out->∀x∈out,x.size<=1000000:=by rw[hF];exact fun k hk out ho x hx=>by have:=kL hk ho hx;omega
 have HFT:=lH hFt;rw[show cY fold l=F l by rw[hF]];clear hc hc' ht hF0 hFs hFn hFl hFt hF;go_enter Tryz.func139,Tryz.ntmps139
 go_wp2_with fail
 go_loopw [13] (fun u13 wr=>∃(k:Nat) (acc:List ByteArray) (v':Value),k<=l.length/\u13=.int .i64 k/\F (l.take k)=some acc/\af wr w.heap.size #[v'] 22/\ap wr (w.heap.size+1) v' acc/\Below w.heap.size w wr) (fun u13 _=>l.length - (intOf u13).toNat)
 case atStart=>exact⟨0,[],_,EN _,rfl,HF0.out,af.new _ _ _,ap.start _ _,(EK _ _).alloc (nR _) _⟩
 case round=>
  obtain⟨k,acc,v',hk,rfl,hacc,hblk,hown,hb⟩:=hrel;have q0:wr.cell? ⟨w.heap.size,0,none⟩=some v':=hblk.cell 0;have f0:wr.frozen? ⟨w.heap.size,0,none⟩=false:=hblk.froz 0;have hwz:=hblk.lt;have HA:=lH hacc;have HB:=lH hb;have HK:=lH hblk;have HO:=lH hown;clear hacc hb hblk hown;by_cases hlt:k<l.length
  ·have hk1:decide ((k:Int)<(l.length:Int))=true:=dT (by omega)
   obtain⟨b,off,hp,h1⟩:=HC.out k hlt wr HB.out;subst hp;obtain⟨s,hs⟩:∃s,s=l[k]:=⟨_,rfl⟩;rw[<-hs] at h1;have hS:=HFS.out k hlt;rw[HA.out,<-hs] at hS;have hss:s.size<=500000:=by have:=rQ (l:=l) (x:=s) (by rw[hs];exact FT hlt);have:=HT.out;omega
   have HS:=lH hS;have HSS:=lH hss;have hal:=HFL.out k hk acc HA.out;have hat:=HFT.out k hk acc HA.out;clear hs hS hss;cases hg:gY s with
   | false=>
     have HGO:Hid (∀W:World,Calls Tryz.prog 173 #[.string s] W fun e w'=>e=.returned (.bool false)/\W=w'):=fun W=>by have:=tj s W;rw[hg] at this;exact this
     have hS2:F (l.take (k+1))=some (acc++[s]):=by rw[HS.out];simp only[dL];rw[if_pos hg]
     have HS2:=lH hS2;clear hS2 HS hg;go_wp2_with (first|(go_at_call 173;refine(HGO.out _).mono ?_;rintro e' w' ⟨rfl,rfl⟩)|(at_builtin;refine aF rfl _ _ rfl rfl HO.out s rfl (by omega) (by omega) ?_))
     intro p1 c1 w1 hown1 hg1 hb1;have hne:v'.ownBlock≠some w.heap.size:=fun e=>by have:=(HO.out.lt _ e).1;omega
     have hK1:=yw (HK.out.alloc (.cells #[.string s] 9)) hg1 hne;have q1:w1.cell? ⟨w.heap.size,0,none⟩=some v':=hK1.cell 0;have f1:w1.frozen? ⟨w.heap.size,0,none⟩=false:=hK1.froz 0;have HO1:=lH hown1;have HK1:=lH hK1;have HB1:=lH (HB.out.trans (hb1.mono (by omega)));clear hown1 hg1 hb1 hne hK1;go_wp2_with fail
     go_roundw
     case rel=>
      refine⟨k+1,acc++[s],.slice p1 (acc.length+1) c1,by omega,by go_num,HS2.out,?_,?_,HB1.out.setCell (nR _) _⟩
      ·have:=HK1.out.set 0 (.slice p1 (acc.length+1) c1)
       simpa using this
      ·exact aD HO1.out (GO _) _ _
     case measure=>simp[intOf];omega
   | true=>
     have HGO:Hid (∀W:World,Calls Tryz.prog 173 #[.string s] W fun e w'=>e=.returned (.bool true)/\W=w'):=fun W=>by have:=tj s W;rw[hg] at this;exact this
     by_cases hf:fold=0
     ·have hf1:(fold==0)=true:=by rw[FA];exact hf
      have hS2:F l=none:=HFN.out (k+1) (by rw[HS.out];simp only[dL];rw[if_neg (by rw[hg];simp),if_pos (Or.inl hf)]);have HS2:=lH hS2;clear hS2 HS hg hf;go_wp2_with (go_at_call 173;refine(HGO.out _).mono ?_;rintro e' w' ⟨rfl,rfl⟩)
      go_ret2
      refine⟨.slice none 0 0,?_,?_,HB.out⟩
      ·rw[HS2.out];rfl
      ·rw[HS2.out];rfl
     ·have hf1:(fold==0)=false:=by rw[EJ];exact hf
      obtain⟨p1,c1,rfl⟩:=HO.out.shape;by_cases ha:acc=[]
      ·have ha1:((acc.length:Int)==0)=true:=by rw[ha];rfl
       have hS2:F l=none:=HFN.out (k+1) (by rw[HS.out];simp only[dL];rw[if_neg (by rw[hg];simp),if_pos (Or.inr ha)]);have HS2:=lH hS2;clear hS2 HS hg hf ha;go_wp2_with (go_at_call 173;refine(HGO.out _).mono ?_;rintro e' w' ⟨rfl,rfl⟩)
       go_ret2
       refine⟨.slice none 0 0,?_,?_,HB.out⟩
       ·rw[HS2.out];rfl
       ·rw[HS2.out];rfl
      ·obtain⟨m,hm⟩:∃m,acc.length=m+1:=⟨acc.length - 1,by cases acc with|nil=>exact absurd rfl ha|cons a t=>simp⟩
       have ha1:((acc.length:Int)==0)=false:=by rw[EJ];omega
       obtain⟨x,hx⟩:∃x,acc[m]? = some x:=⟨_,EM (by omega)⟩
       have hS2:F (l.take (k+1))=some (acc.set m (lu x s)):=by
        rw[HS.out];simp only[dL];rw[if_neg (by rw[hg];simp),if_neg (by rintro (e|e);exact hf e;exact ha e)];rw[show acc.length - 1=m by omega,List.getD_eq_getElem?_getD,hx];rfl
       have HS2:=lH hS2;have HJ:=lH (Aa s x w.heap.size m acc _ wr HK.out HO.out hm hx (by omega) (hat _ (GR hx)) (by have:=HSS.out;omega));clear hS2 HS hg hf ha hm hx;go_wp2_with (first|(go_at_call 173;refine(HGO.out _).mono ?_;rintro e' w' ⟨rfl,rfl⟩)|(go_at_call 170;refine HJ.out.mono ?_;rintro e' w1 ⟨rfl,hk1',ho1,hb1⟩;have HJ1:=lH (And.intro hk1' (And.intro ho1 hb1));clear hk1' ho1 hb1))
       go_roundw
       case rel=>
        refine⟨k+1,acc.set m (lu x s),_,by omega,by go_num,HS2.out,HJ1.out.1,HJ1.out.2.1,HB.out.trans HJ1.out.2.2⟩
       case measure=>simp[intOf];omega
  ·have hk1:decide ((k:Int)<(l.length:Int))=false:=dF (by omega)
   have hS2:F l=some acc:=by have:=HA.out;rwa [Fh (by omega)] at this
   have HS2:=lH hS2;clear hS2;go_wp2_with fail
   go_ret2
   refine⟨v',?_,?_,HB.out⟩
   ·rw[HS2.out];rfl
   ·rw[HS2.out];exact HO.out.lower (FV _)
end Go.Proofs.YthjbodpeckebiaaGreatDoor
-- UnfoldR
namespace Go.Proofs.YthjbodpeckebiaaGreatDoor
open Go.RowKit
theorem Ao (V:World) (J:ByteArray):∀j (hj:j < [J].length),(V.alloc (.cells #[.string J] 9)).cell? ⟨V.heap.size,0+j,none⟩=some (.string [J][j]):=by
 intro j hj;have e:j=0:=by simp at hj;omega
 subst e;exact(af.new V #[.string J] 9).cell 0
theorem sV (fold:Int) (v:Value) (l:List ByteArray) (w:World) (h:cQ w v l) (hn:l.length<=500000) (ht:dX l<=500000):
 Calls Tryz.prog 126 #[.int .i64 fold,v] w fun e w'=>∃v',e=.returned (.tuple #[v',.int .i64 (DU (cY fold l))])/\DK w' w.heap.size v' (cY fold l)/\Below w.heap.size w w':=by
 obtain⟨p,c,rfl,hc⟩:=h
 have hc':∀k (hk:k<l.length) (W:World),Below w.heap.size w W->∃b off,p=some ⟨b,off,none⟩/\b<w.heap.size/\W.cell? ⟨b,off+k,none⟩=some (.string l[k]):=fun k hk W hW=>by
  obtain⟨b,off,hp,h1⟩:=hc k hk;exact⟨b,off,hp,ET w _ h1,(bL hW b _ (ET w _ h1)).trans h1⟩
 have HC:=lH hc';have HT:=lH ht;obtain⟨F,hF⟩:∃F,F=cY fold:=⟨_,rfl⟩;have hF0:F (l.take 0)=some []:=by rw[hF];rfl
 have HF0:=lH hF0;have hFs:∀k (hk:k<l.length),F (l.take (k+1))=dL fold (F (l.take k)) l[k]:=by rw[hF];exact fun k hk=>ip fold l k hk
 have HFS:=lH hFs;have hFn:∀k,F (l.take k)=none->F l=none:=by rw[hF];exact fun k=>nV fold l k
 have HFN:=lH hFn;have hFl:∀k,k<=l.length->∀out,F (l.take k)=some out->out.length<=k/\(0<k->0<out.length):=by rw[hF];exact ik fold l
 have HFL:=lH hFl;have hFt:∀k,k<=l.length->∀out,F (l.take k)=some out->∀x∈out,x.size<=1000000:=by rw[hF];exact fun k hk out ho x hx=>by have:=kL hk ho hx;omega
 have HFT:=lH hFt;rw[show cY fold l=F l by rw[hF]];clear hc hc' ht hF0 hFs hFn hFl hFt hF;go_enter Tryz.func126,Tryz.ntmps126
 go_wp2_with fail
 go_loopw [6,7] (fun u6 u7 wr=>∃(k:Nat) (acc:List ByteArray),k<=l.length/\u7=.int .i64 k/\F (l.take k)=some acc/\ap wr w.heap.size u6 acc/\Below w.heap.size w wr) (fun _ u7 _=>l.length - (intOf u7).toNat)
 case atStart=>exact⟨0,[],EN _,rfl,HF0.out,ap.empty _,(EK _ _).alloc (nR _) _⟩
 case round=>
  obtain⟨k,acc,hk,rfl,hacc,hown,hb⟩:=hrel;have HA:=lH hacc;have HB:=lH hb;have HO:=lH hown;clear hacc hb hown;by_cases hlt:k<l.length
  ·have hk1:decide ((k:Int)<(l.length:Int))=true:=dT (by omega)
   obtain⟨b,off,hp,hblt,h1⟩:=HC.out k hlt wr HB.out;subst hp;obtain⟨s,hs⟩:∃s,s=l[k]:=⟨_,rfl⟩;rw[<-hs] at h1;have hS:=HFS.out k hlt;rw[HA.out,<-hs] at hS;have hss:s.size<=500000:=by have:=rQ (l:=l) (x:=s) (by rw[hs];exact FT hlt);have:=HT.out;omega
   have HS:=lH hS;have HSS:=lH hss;have hal:=HFL.out k hk acc HA.out;have hat:=HFT.out k hk acc HA.out;have HLB:=lH (FC hblt HB.out.size);clear hs hS hss hblt;cases hg:gY s with
   | false=>
     have HGO:Hid (∀W:World,Calls Tryz.prog 156 #[.string s] W fun e w'=>e=.returned (.bool false)/\W=w'):=fun W=>by have:=qU s (by have:=HSS.out;omega) W;rw[hg] at this;exact this
     have hS2:F (l.take (k+1))=some (acc++[s]):=by rw[HS.out];simp only[dL];rw[if_pos hg]
     have HS2:=lH hS2;have HBZ:=lH HB.out.size;clear hS2 HS hg;go_wp2_with (first|(go_at_call 156;refine(HGO.out _).mono ?_;rintro e' w' ⟨rfl,rfl⟩)|(at_builtin;refine aF rfl _ _ rfl rfl HO.out s rfl (by omega) HBZ.out ?_))
     intro p1 c1 w1 hown1 hg1 hb1;have HO1:=lH hown1;have HB1:=lH (HB.out.trans hb1);clear hown1 hg1 hb1;go_wp2_with fail
     go_roundw
     case rel=>exact⟨k+1,acc++[s],by omega,by go_num,HS2.out,HO1.out,HB1.out⟩
     case measure=>simp[intOf];omega
   | true=>
     have HGO:Hid (∀W:World,Calls Tryz.prog 156 #[.string s] W fun e w'=>e=.returned (.bool true)/\W=w'):=fun W=>by have:=qU s (by have:=HSS.out;omega) W;rw[hg] at this;exact this
     by_cases hf:fold=0
     ·have hf1:(fold==0)=true:=by rw[FA];exact hf
      have hS2:F l=none:=HFN.out (k+1) (by rw[HS.out];simp only[dL];rw[if_neg (by rw[hg];simp),if_pos (Or.inl hf)]);have HS2:=lH hS2;clear hS2 HS hg hf;go_wp2_with (go_at_call 156;refine(HGO.out _).mono ?_;rintro e' w' ⟨rfl,rfl⟩)
      go_ret2
      refine⟨.slice none 0 0,?_,?_,HB.out⟩
      ·rw[HS2.out];rfl
      ·rw[HS2.out];rfl
     ·have hf1:(fold==0)=false:=by rw[EJ];exact hf
      by_cases ha:acc=[]
      ·have hk0:((k:Int)==0)=true:=by
        have:=hal.2;rw[ha] at this;simp at this;rw[this];rfl
       have hS2:F l=none:=HFN.out (k+1) (by rw[HS.out];simp only[dL];rw[if_neg (by rw[hg];simp),if_pos (Or.inr ha)]);have HS2:=lH hS2;clear hS2 HS hg hf ha;go_wp2_with (go_at_call 156;refine(HGO.out _).mono ?_;rintro e' w' ⟨rfl,rfl⟩)
       go_ret2
       refine⟨.slice none 0 0,?_,?_,HB.out⟩
       ·rw[HS2.out];rfl
       ·rw[HS2.out];rfl
      ·obtain⟨m,hm⟩:∃m,acc.length=m+1:=⟨acc.length - 1,by cases acc with|nil=>exact absurd rfl ha|cons a t=>simp⟩
       have hk0:((k:Int)==0)=false:=by rw[EJ];omega
       obtain⟨x,hx⟩:∃x,acc[m]? = some x:=⟨_,EM (by omega)⟩;obtain⟨J,hJ⟩:∃J,J=lu x s:=⟨_,rfl⟩
       have hS2:F (l.take (k+1))=some (acc.take m++[J]):=by
        rw[HS.out];simp only[dL];rw[if_neg (by rw[hg];simp),if_neg (by rintro (e|e);exact hf e;exact ha e)];rw[show acc.length - 1=m by omega,List.getD_eq_getElem?_getD,hx,hJ];rw[List.set_eq_take_append_cons_drop,if_pos (by omega),E6 (by omega)];rfl
       obtain⟨g,cap,cur,rfl,hgb,hgg,hcl,htk⟩:=HO.out.block (by omega);have hOm:=HO.out;have hxs:=hat x (GR hx);obtain⟨A,hA⟩:∃A,A=iS x++⟨#[32]⟩:=⟨_,rfl⟩;obtain⟨E,hE⟩:∃E,E=iS x:=⟨_,rfl⟩;obtain⟨T,hT⟩:∃T,T=aX s:=⟨_,rfl⟩;have hEs:E.size<=x.size:=by rw[hE];exact lF x
       have hTs:T.size<=s.size:=by rw[hT];exact fL s
       rw[<-hE] at hA;have hAs:A.size=E.size+1:=by rw[hA,F7];rfl
       have hJe:J=A++T:=by rw[hJ,hA,hE,hT];rfl
       have hls1:(⟨#[32]⟩:ByteArray).size=1:=rfl;have hadd1:∀W:World,(Op.stringOp .add E ⟨#[32]⟩).run Tryz.prog W=.ok (.string A) W:=fun W=>(run_string_add_sum (P:=Tryz.prog) (w:=W) E ⟨#[32]⟩ (by omega)).trans (by rw[<-hA]);have hadd2:∀W:World,(Op.stringOp .add A T).run Tryz.prog W=.ok (.string J) W:=fun W=>(run_string_add_sum (P:=Tryz.prog) (w:=W) A T (by have:=HSS.out;omega)).trans (by rw[<-hJe]);have HE:Hid (∀W:World,Calls Tryz.prog 157 #[.string x] W fun e w'=>e=.returned (.string E)/\W=w'):=fun W=>by rw[hE];exact Ax x (by omega) W
       have HTR:Hid (∀W:World,Calls Tryz.prog 158 #[.string s] W fun e w'=>e=.returned (.string T)/\W=w'):=fun W=>by rw[hT];exact gG s (by have:=HSS.out;omega) W
       have hlg:g<wr.heap.size:=(EV.1 hgg).1
       have hxc:wr.cell? ⟨g,m,none⟩=some (.string x):=by
        have:=hOm.cell m (by omega);rw[EM (by omega)] at hx;rw[Gs hx] at this;exact this
       have hnew:∀W,Below wr.heap.size wr W->∀j (h:j<(acc.take m).length),W.cell? ⟨g,0+j,none⟩=some (.string (acc.take m)[j]):=fun W hW j hj=>by
        have hj':j<acc.length:=by simp at hj;omega
        rw[FQ,List.getElem_take];exact(bL hW g _ hlg).trans (hOm.cell j hj')
       have hlt':m=(acc.take m).length:=by simp;omega
       have HS2:=lH hS2;have HLG:=lH hlg;have HX:=lH hxc;have HNEW:=lH hnew;have HLT:=lH hlt';have hcap:=hOm.cap;have hm0:(0:Int)<=(m:Int):=by omega
       have hmb:m<=500000:=Nat.le_of_succ_le (show m+1<=500000 from Eq.subst (motive:=fun z=>z<=500000) hm (nT hal.1 (nT hk hn)));have hwm:wrap64 (m:Int)=m:=FY _ ⟨GN (by decide) (Int.natCast_nonneg m),GN (Int.ofNat_le.2 hmb) (by decide)⟩;have hmc:m<=cap:=Nat.le_of_succ_le (show m+1<=cap from Eq.subst (motive:=fun z=>z<=cap) hm hcap);have hms:(m:Int)<(m:Int)+1:=Int.lt_succ _;have HMB:=lH hmb;rw[hm];clear hS2 HS hg hf ha hx hJ hcap hm hal hat hmb hgb hgg hcl htk hOm hxs hA hE hT hEs hTs hAs hJe hls1 hlg hxc hnew hlt';go_wp2_with (go_at_call 156;refine(HGO.out _).mono ?_;rintro e' w' ⟨rfl,rfl⟩)
       refine bm (S:=fun v=>Below wr.heap.size wr v) (by kernel_rfl) ?_;intro V0 hV0;have h0:Below wr.heap.size wr V0:=by rw[hV0];exact(EK _ _).drew
       clear hV0;refine EL (i:=1) (v:=.slice (some ⟨g,0,none⟩) (m+1) cap) rfl (by kernel_rfl) (by kernel_rfl) (by kernel_rfl) (fun _ _ _ h=>h) (Or.inl ⟨by kernel_rfl,?hy1⟩) h0 ?rest1
       case hy1=>
        intro v hv;clear hv;go_simp
       (try simp only[Act.put,lS,lZ,lC])
       refine EL (i:=2) (v:=.int .i64 m) rfl (by kernel_rfl) (by kernel_rfl) (by kernel_rfl) (fun _ _ _ h=>h) (Or.inl ⟨by kernel_rfl,?hy2⟩) h0 ?rest2
       case hy2=>
        intro v hv;clear hv;go_simp
       (try simp only[Act.put,lS,lZ,lC])
       refine EL (i:=3) (v:=.slice (some ⟨g,0,none⟩) m cap) rfl (by kernel_rfl) (by kernel_rfl) (by kernel_rfl) (fun _ _ _ h=>h) (Or.inl ⟨by kernel_rfl,?hy3⟩) h0 ?rest3
       case hy3=>
        intro v hv;clear hv;go_simp
       (try simp only[Act.put,lS,lZ,lC])
       refine EL (i:=5) (v:=.slice (some ⟨g,0,none⟩) (m+1) cap) rfl (by kernel_rfl) (by kernel_rfl) (by kernel_rfl) (fun _ _ _ h=>h) (Or.inl ⟨by kernel_rfl,?hy4⟩) h0 ?rest4
       case hy4=>
        intro v hv;clear hv;go_simp
       (try simp only[Act.put,lS,lZ,lC])
       refine EL (i:=6) (v:=.int .i64 m) rfl (by kernel_rfl) (by kernel_rfl) (by kernel_rfl) (fun _ _ _ h=>h) (Or.inl ⟨by kernel_rfl,?hy5⟩) h0 ?rest5
       case hy5=>
        intro v hv;clear hv;go_simp
       (try simp only[Act.put,lS,lZ,lC])
       refine EL (i:=7) (v:=.pointer (some ⟨g,m,none⟩)) rfl (by kernel_rfl) (by kernel_rfl) (by kernel_rfl) (fun _ _ _ h=>h) (Or.inl ⟨by kernel_rfl,?hy6⟩) h0 ?rest6
       case hy6=>
        intro v hv;clear hv;go_simp
       (try simp only[Act.put,lS,lZ,lC])
       refine EL (i:=8) (v:=.string x) rfl (by kernel_rfl) (by kernel_rfl) (by kernel_rfl) (fun _ _ _ h=>h) (Or.inl ⟨by kernel_rfl,?hy7⟩) h0 ?rest7
       case hy7=>
        intro v hv;have q:=(bL hv _ _ HLG.out).trans HX.out;clear hv;go_simp
       (try simp only[Act.put,lS,lZ,lC])
       refine EL (i:=11) (v:=.slice (some ⟨b,off,none⟩) l.length c) rfl (by kernel_rfl) (by kernel_rfl) (by kernel_rfl) (fun _ _ _ h=>h) (Or.inl ⟨by kernel_rfl,?hy8⟩) h0 ?rest8
       case hy8=>
        intro v hv;clear hv;go_simp
       (try simp only[Act.put,lS,lZ,lC])
       refine EL (i:=12) (v:=.int .i64 k) rfl (by kernel_rfl) (by kernel_rfl) (by kernel_rfl) (fun _ _ _ h=>h) (Or.inl ⟨by kernel_rfl,?hy9⟩) h0 ?rest9
       case hy9=>
        intro v hv;clear hv;go_simp
       (try simp only[Act.put,lS,lZ,lC])
       refine EL (i:=13) (v:=.pointer (some ⟨b,off+k,none⟩)) rfl (by kernel_rfl) (by kernel_rfl) (by kernel_rfl) (fun _ _ _ h=>h) (Or.inl ⟨by kernel_rfl,?hy10⟩) h0 ?rest10
       case hy10=>
        intro v hv;clear hv;go_simp
       (try simp only[Act.put,lS,lZ,lC])
       refine EL (i:=14) (v:=.string s) rfl (by kernel_rfl) (by kernel_rfl) (by kernel_rfl) (fun _ _ _ h=>h) (Or.inl ⟨by kernel_rfl,?hy11⟩) h0 ?rest11
       case hy11=>
        intro v hv;have q:=(bL hv _ _ HLB.out).trans h1;clear hv;go_simp
       (try simp only[Act.put,lS,lZ,lC])
       refine Fe (rs:=[0]) (by kernel_rfl) (by simp) ?_;refine EZ rfl (fun K hK=>?_) E9;go_simp;have h1':=h0.alloc h0.size (.cells #[] 9);refine hK _ _ h1' (fun _=>?_);clear hK K;(try simp only[Act.put,lS,lZ,lC])
       refine Fe (rs:=[4]) (by kernel_rfl) (by simp) ?_;refine EZ rfl (fun K hK=>?_) E9;refine ja rfl _ _ rfl rfl (ap.empty V0) (acc.take m) g 0 m cap rfl HLT.out (HNEW.out _ (h0.alloc h0.size _)) (by have:=HMB.out;simp;omega) (by simp) ?_;intro p2 c2 V1 hown2 _ hb2;have h2':Below wr.heap.size wr V1:=h1'.trans (hb2.mono h0.size);have HS1:=lH (And.intro hown2 (hb2.size));clear hown2 hb2 h1';refine hK _ _ h2' (fun _=>?_);clear hK K;(try simp only[Act.put,lS,lZ,lC])
       refine Fe (rs:=[9]) (by kernel_rfl) (by simp) ?_;refine EZ rfl (fun K hK=>?_) E9;go_simp;refine(HE.out _).mono ?_;rintro e V2 ⟨rfl,rfl⟩;refine hK _ _ h2' (fun _=>?_);clear hK K;(try simp only[Act.put,lS,lZ,lC])
       refine EL (i:=10) (v:=.string A) rfl (by kernel_rfl) (by kernel_rfl) (by kernel_rfl) (fun _ _ _ h=>h) (Or.inl ⟨by kernel_rfl,?hy12⟩) h2' ?rest12
       case hy12=>
        intro v hv;have q:=hadd1 v;clear hv;go_simp
       (try simp only[Act.put,lS,lZ,lC])
       refine Fe (rs:=[15]) (by kernel_rfl) (by simp) ?_;refine EZ rfl (fun K hK=>?_) E9;go_simp;refine(HTR.out _).mono ?_;rintro e V2 ⟨rfl,rfl⟩;refine hK _ _ h2' (fun _=>?_);clear hK K;(try simp only[Act.put,lS,lZ,lC])
       refine EL (i:=16) (v:=.string J) rfl (by kernel_rfl) (by kernel_rfl) (by kernel_rfl) (fun _ _ _ h=>h) (Or.inl ⟨by kernel_rfl,?hy13⟩) h2' ?rest13
       case hy13=>
        intro v hv;have q:=hadd2 v;clear hv;go_simp
       (try simp only[Act.put,lS,lZ,lC])
       refine Fe (rs:=[17]) (by kernel_rfl) (by simp) ?_;refine EZ rfl (fun K hK=>?_) E9;go_simp;have h3':=h2'.alloc h2'.size (.cells #[.string J] 9);refine hK _ _ h3' (fun _=>?_);clear hK K;(try simp only[Act.put,lS,lZ,lC])
       refine Fe (rs:=[18]) (by kernel_rfl) (by simp) ?_;refine EZ rfl (fun K hK=>?_) E9;have HNJ:=lH (fun j (hj:j < [J].length)=>Ao V1 J j hj);refine ja rfl _ _ rfl (by simp[Act.eval]) (HS1.out.1.alloc _) [J] V1.heap.size 0 1 1 rfl rfl HNJ.out (by have:=HMB.out;have:=HLT.out;simp at this ⊢;omega) (by have:=HS1.out.2;simp at this ⊢;omega) ?_;intro p3 c3 V3 hown3 _ hb3;have h4':Below wr.heap.size wr V3:=h3'.trans (hb3.mono h0.size);have HF:=lH (hown3.lower h0.size);clear hown3 hb3 h3';refine hK _ _ h4' (fun _=>?_);clear hK K;(try simp only[Act.put,lS,lZ,lC])
       refine Fe (rs:=[19]) (by kernel_rfl) (by simp) ?_;refine EZ rfl (fun K hK=>?_) E9;go_simp;refine hK _ _ h4' (fun _=>?_);clear hK K;(try simp only[Act.put,lS,lZ,lC])
       refine wpAnyH_done (by kernel_rfl) ?_ _;go_wp2_with fail
       go_roundw
       case rel=>
        refine⟨k+1,acc.take m++[J],by omega,by go_num,HS2.out,?_,HB.out.trans (h4'.mono HB.out.size)⟩;have hf:=HF.out;simp only[GH,Ge] at hf;exact hf.lower HB.out.size
       case measure=>simp[intOf];omega
  ·have hk1:decide ((k:Int)<(l.length:Int))=false:=dF (by omega)
   have hS2:F l=some acc:=by have:=HA.out;rwa [Fh (by omega)] at this
   have HS2:=lH hS2;clear hS2;go_wp2_with fail
   go_ret2
   refine⟨u6,?_,?_,HB.out⟩
   ·rw[HS2.out];rfl
   ·rw[HS2.out];exact HO.out
end Go.Proofs.YthjbodpeckebiaaGreatDoor
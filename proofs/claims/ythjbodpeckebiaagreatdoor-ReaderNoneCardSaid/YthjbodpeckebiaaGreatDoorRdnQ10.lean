/- Texts packed for one claim, 10 of 48: UnfoldP UnfoldJ Unfold UnfoldR. -/
import Derived.Test.YthjbodpeckebiaaGreatDoorRdnQ8
import Derived.Test.YthjbodpeckebiaaGreatDoorRdnQ4
import Derived.Test.YthjbodpeckebiaaGreatDoorRdnQ9
import Derived.Test.YthjbodpeckebiaaGreatDoorRdnQ7
import Derived.Test.YthjbodpeckebiaaGreatDoorRdnQ2
set_option maxRecDepth 100000
set_option maxHeartbeats 16000000
set_option linter.unusedSimpArgs false
set_option linter.unusedVariables false
-- UnfoldP
namespace Go.Proofs.YthjbodpeckebiaaGreatDoor
open Go.RowKit
def gr (a b:ByteArray):ByteArray:=se a++⟨#[32]⟩++bT b
def db (fold:Int):Option (List ByteArray)->ByteArray->Option (List ByteArray)
 | none,_=>none
 | some out,line=>if nE line=false then some (out++[line]) else if fold=0\/out=[] then none else some (out.set (out.length - 1) (gr (out.getD (out.length - 1) ⟨#[]⟩) line))
def bY (fold:Int) (l:List ByteArray):Option (List ByteArray):=l.foldl (db fold) (some [])
theorem eY (fold:Int) (l:List ByteArray) (k:Nat) (h:k<l.length):bY fold (l.take (k+1))=db fold (bY fold (l.take k)) l[k]:=by
 unfold bY;rw[uj h,List.foldl_append];rfl
theorem iu (fold:Int):∀l:List ByteArray,l.foldl (db fold) none=none
 | []=>rfl
 | a :: l=>by rw[List.foldl_cons];exact iu fold l
theorem ns (fold:Int) (l:List ByteArray) (k:Nat) (h:bY fold (l.take k)=none):bY fold l=none:=by
 have e:l=l.take k++l.drop k:=(vc k l).symm;unfold bY at h ⊢;rw[e,List.foldl_append,h];exact iu fold _
theorem gi (fold:Int) (l:List ByteArray):∀k,k<=l.length->∀out,bY fold (l.take k)=some out->out.length<=k/\(0<k->0<out.length):=by
 intro k;induction k with
 | zero=>intro _ out h;cases (show some []=some out from h);exact⟨nR _,fun h=>absurd h (Nat.lt_irrefl _)⟩
 | succ k ih=>
   intro hk out h;rw[eY fold l k (by omega)] at h;cases ho:bY fold (l.take k) with
   | none=>rw[ho] at h;cases h
   | some o=>
     have hi:=ih (by omega) o ho;rw[ho] at h;simp only[db] at h;split at h
     ·cases h;rw[ue];simp only[List.length_singleton];omega
     ·split at h
      ·cases h
      ·rename_i hne
       cases h
       have:o≠[]:=fun e=>hne (Or.inr e);have:0<o.length:=by cases o with|nil=>exact absurd rfl this|cons a t=>simp
       rw[List.length_set];omega
theorem fK (l:List UInt8):(bU l).length<=l.length:=by
 unfold bU;rw[List.length_reverse];exact nT (List.dropWhile_sublist _).length_le (by rw[List.length_reverse];exact(List.dropWhile_sublist _).length_le)
theorem eX (s:ByteArray):(bT s).size<=s.size:=by
 have h1:(bU s.data.toList).length<=s.data.toList.length:=fK _;show (bU s.data.toList).toArray.size<=_;simpa using h1
theorem mL (a b:ByteArray):(gr a b).size<=a.size+b.size+1:=by
 have h1:=jF a;have h2:=eX b;unfold gr;rw[uV,uV];have:(⟨#[32]⟩:ByteArray).size=1:=rfl;omega
def du (l:List ByteArray):Nat:=(l.map fun x=>x.size).sum
theorem fJ (l:List ByteArray) (x:ByteArray):du (l++[x])=du l+x.size:=by unfold du;simp
theorem ej (l:List ByteArray) (x:ByteArray):du (x :: l)=x.size+du l:=by unfold du;simp
theorem nY {l:List ByteArray} {x:ByteArray} (h:x∈l):x.size<=du l:=by
 induction l with
 | nil=>cases h
 | cons a l ih=>
   rw[ej];rcases List.mem_cons.1 h with rfl|h
   ·omega
   ·have:=ih h;omega
theorem nZ (y:ByteArray):∀(l:List ByteArray) (i:Nat) (h:i<l.length),du (l.set i y)+l[i].size=du l+y.size
 | [],_,h=>absurd h (uL _)
 | a :: l,0,_=>by simp only[lZ,ej,List.getElem_cons_zero];omega
 | a :: l,i+1,h=>by
   have:=nZ y l i (by simpa using h);simp only[lC,ej,List.getElem_cons_succ];omega
theorem rG (l:List ByteArray) (k:Nat):du (l.take k)<=du l:=by
 have h:l=l.take k++l.drop k:=(vc k l).symm
 have:du l=du (l.take k)+du (l.drop k):=by
  conv=>lhs;rw[h]
  unfold du;rw[uw,List.sum_append]
 omega
theorem qc (fold:Int) (l:List ByteArray):∀k,k<=l.length->∀out,bY fold (l.take k)=some out->du out<=du (l.take k)+k:=by
 intro k;induction k with
 | zero=>intro _ out h;cases (show some []=some out from h);exact tX _
 | succ k ih=>
   intro hk out h;rw[eY fold l k (by omega)] at h;rw[uj (by omega),fJ];cases ho:bY fold (l.take k) with
   | none=>rw[ho] at h;cases h
   | some o=>
     have hi:=ih (by omega) o ho;rw[ho] at h;simp only[db] at h;split at h
     ·cases h
      rw[fJ];omega
     ·split at h
      ·cases h
      ·rename_i hne
       cases h
       have hne':o≠[]:=fun e=>hne (Or.inr e);have h0:o.length - 1<o.length:=by cases o with|nil=>exact absurd rfl hne'|cons a t=>simp
       have hl:o.getD (o.length - 1) ⟨#[]⟩=o[o.length - 1]:=by rw[List.getD_eq_getElem?_getD,tW h0];rfl
       have hj:=mL (o.getD (o.length - 1) ⟨#[]⟩) l[k];have:=nZ (gr (o.getD (o.length - 1) ⟨#[]⟩) l[k]) o (o.length - 1) h0;rw[hl] at *;omega
theorem l6 {fold:Int} {l:List ByteArray} {k:Nat} {out:List ByteArray} (hk:k<=l.length) (h:bY fold (l.take k)=some out) {x:ByteArray} (hx:x∈out):x.size<=du l+l.length:=by
 have h1:=qc fold l k hk out h;have h2:=rG l k;have h3:=nY hx;omega
end Go.Proofs.YthjbodpeckebiaaGreatDoor
-- UnfoldJ
namespace Go.Proofs.YthjbodpeckebiaaGreatDoor
open Go.RowKit
theorem qU (line x:ByteArray) (b m:Nat) (l:List ByteArray) (v:Value) (w:World) (hk:ac w b #[v] 22) (hv:ao w (b+1) v l) (h0:l.length=m+1) (hx:l[m]? = some x) (hm:m<1000000) (hxs:x.size<=1000000) (hls:line.size<=1000000):
 Calls Tryz.prog 170 #[.string line,.pointer (some ⟨b,0,none⟩)] w fun e w'=>e=.returned (.tuple #[])/\ac w' b #[v] 22/\ao w' (b+1) v (l.set m (gr x line))/\Below b w w':=by
 obtain⟨g,cap,cur,rfl,hgb,hg,hcl,htk⟩:=hv.block (by omega);have hne:g≠b:=by omega
 have hG:ac w g cur 9:=hg
 have hcm:cur[m]? = some (.string x):=by
  have a:(l.map Value.string)[m]? = some (.string x):=by rw[u2,hx];rfl
  rw[<-htk,vg,if_pos (by omega)] at a;simpa using a
 obtain⟨E,hE⟩:∃E,E=se x:=⟨_,rfl⟩;have hEs:E.size<=x.size:=by rw[hE];exact jF x
 obtain⟨T,hT⟩:∃T,T=bT line:=⟨_,rfl⟩;have hTs:T.size<=line.size:=by rw[hT];exact eX line
 have hls1:(⟨#[32]⟩:ByteArray).size=1:=rfl;obtain⟨A,hA⟩:∃A,A=E++⟨#[32]⟩:=⟨_,rfl⟩;have hAs:A.size=E.size+1:=by rw[hA,uV];rfl
 obtain⟨J,hJ⟩:∃J,J=A++T:=⟨_,rfl⟩;have hJe:gr x line=J:=by rw[hJ,hA,hE,hT];rfl
 have hadd1:∀W:World,(Op.stringOp .add E ⟨#[32]⟩).run Tryz.prog W=.ok (.string A) W:=fun W=>(run_string_add_sum (P:=Tryz.prog) (w:=W) E ⟨#[32]⟩ (by omega)).trans (by rw[<-hA]);have hadd2:∀W:World,(Op.stringOp .add A T).run Tryz.prog W=.ok (.string J) W:=fun W=>(run_string_add_sum (P:=Tryz.prog) (w:=W) A T (by omega)).trans (by rw[<-hJ]);have H1:Hid (∀W:World,Calls Tryz.prog 171 #[.string x,.string ⟨#[32,9]⟩] W fun e w'=>e=.returned (.string E)/\Below W.heap.size W w'):=fun W=>by rw[hE];exact qb x (by omega) W
 have H2:Hid (∀W:World,Calls Tryz.prog 172 #[.string line] W fun e w'=>e=.returned (.string T)/\W=w'):=fun W=>by rw[hT];exact fL line (by omega) W
 obtain⟨I,hIe⟩:∃I:World->Prop,I=fun x=>Below w.heap.size w x:=⟨_,rfl⟩;have HIO:=lH (show ∀x,I x->Below w.heap.size w x by rw[hIe];exact fun _ h=>h)
 have HIM:Hid (∀x x',I x->Below x.heap.size x x'->I x'):=by
  show ∀x x',I x->Below x.heap.size x x'->I x';rw[hIe];exact fun x x' h hb=>h.trans (hb.mono h.size)
 have hI0:I w.drew:=by rw[hIe];exact(tU _ _).drew
 have NI:Nonempty (Cl I):=⟨⟨_,hI0⟩⟩;have HI0:=lH hI0;have c0:w.cell? ⟨b,0,none⟩=some (.slice (some ⟨g,0,none⟩) l.length cap):=hk.cell 0;rw[h0] at c0;have q0:∀s:Cl I,s.val.cell? ⟨b,0,none⟩=some (.slice (some ⟨g,0,none⟩) (m+1) cap):=fun s=>by have:=(hk.call (HIO.out _ s.ok)).cell 0;rw[h0] at this;exact this
 have q1:∀s:Cl I,s.val.cell? ⟨g,m,none⟩=some (.string x):=fun s=>((hG.call (HIO.out _ s.ok)).cell m).trans hcm;have q2:∀s:Cl I,s.val.frozen? ⟨g,m,none⟩=false:=fun s=>(hG.call (HIO.out _ s.ok)).froz m;have HK:=lH hk;have HV:=lH hv;have HE:=lH hJe;have H0:=lH h0;have HN:=lH hne;have HGB:=lH hgb;clear hk hv hgb hg hG hcl htk hcm hE hEs hT hTs hA hAs hJ hJe hIe hI0 hx hxs hls hls1 hne h0;go_enter Tryz.func170,Tryz.ntmps170
 go_wp2_with fail
 refine fR 12 HI0.out (by kernel_rfl) (by kernel_rfl) ?_;simp only[uy,List.take_zero,uA,us]
 repeat go_big_quiet_step ((first
  | (go_at_call 171;exact Calls.cl_of ((H1.out _).mono fun _ _ ⟨a,b⟩=>⟨a,HIM.out _ _ (Cl.ok _) b⟩))
  | (go_at_call 172;exact Calls.cl_same (H2.out _))))
 refine uE ?_;rintro _ ⟨s,rfl⟩;go_wp2_with fail
 go_end0
 have hb:=HIO.out _ s.ok;have hv1:=HV.out.call hb;have hk1:=HK.out.call hb;refine⟨rfl,hk1.far HN.out.symm _,?_,(hb.mono (Nat.le_of_lt HK.out.lt)).setCell (by show b<=g;have:=HGB.out;omega) _⟩;rw[HE.out];have:=hv1.set m (by have:=H0.out;omega) J;rw[List.length_set] at this;exact this
end Go.Proofs.YthjbodpeckebiaaGreatDoor
-- Unfold
namespace Go.Proofs.YthjbodpeckebiaaGreatDoor
open Go.RowKit
def ufRes (o:Option (List ByteArray)):Int:=match o with|none=>3|some _=>0
def UfRes (w':World) (B:Nat) (v:Value):Option (List ByteArray)->Prop
 | none=>v=.slice none 0 0
 | some out=>ao w' B v out
theorem nu (fold:Int) (v:Value) (l:List ByteArray) (w:World) (h:dy w v l) (hn:l.length<=500000) (ht:du l<=500000):
 Calls Tryz.prog 139 #[.int .i64 fold,v] w fun e w'=>∃v',e=.returned (.tuple #[v',.int .i64 (ufRes (bY fold l))])/\UfRes w' w.heap.size v' (bY fold l)/\Below w.heap.size w w':=by
 obtain⟨p,c,rfl,hc⟩:=h
 have hc':∀k (hk:k<l.length) (W:World),Below w.heap.size w W->∃b off,p=some ⟨b,off,none⟩/\W.cell? ⟨b,off+k,none⟩=some (.string l[k]):=fun k hk W hW=>by
  obtain⟨b,off,hp,h1⟩:=hc k hk;exact⟨b,off,hp,(dY hW b _ (t8 w _ h1)).trans h1⟩
 have HC:=lH hc';have HT:=lH ht;obtain⟨F,hF⟩:∃F,F=bY fold:=⟨_,rfl⟩;have hF0:F (l.take 0)=some []:=by rw[hF];rfl
 have HF0:=lH hF0;have hFs:∀k (hk:k<l.length),F (l.take (k+1))=db fold (F (l.take k)) l[k]:=by rw[hF];exact fun k hk=>eY fold l k hk
 have HFS:=lH hFs;have hFn:∀k,F (l.take k)=none->F l=none:=by rw[hF];exact fun k=>ns fold l k
 have HFN:=lH hFn;have hFl:∀k,k<=l.length->∀out,F (l.take k)=some out->out.length<=k/\(0<k->0<out.length):=by rw[hF];exact gi fold l
 have HFL:=lH hFl;have hFt:∀k,k<=l.length->∀out,F (l.take k)=some out->∀x∈out,x.size<=1000000:=by rw[hF];exact fun k hk out ho x hx=>by have:=l6 hk ho hx;omega
 have HFT:=lH hFt;rw[show bY fold l=F l by rw[hF]];clear hc hc' ht hF0 hFs hFn hFl hFt hF;go_enter Tryz.func139,Tryz.ntmps139
 go_wp2_with fail
 go_loopw [13] (fun u13 wr=>∃(k:Nat) (acc:List ByteArray) (v':Value),k<=l.length/\u13=.int .i64 k/\F (l.take k)=some acc/\ac wr w.heap.size #[v'] 22/\ao wr (w.heap.size+1) v' acc/\Below w.heap.size w wr) (fun u13 _=>l.length - (intOf u13).toNat)
 case atStart=>exact⟨0,[],_,tX _,rfl,HF0.out,ac.new _ _ _,ao.start _ _,(tU _ _).alloc (nR _) _⟩
 case round=>
  obtain⟨k,acc,v',hk,rfl,hacc,hblk,hown,hb⟩:=hrel;have q0:wr.cell? ⟨w.heap.size,0,none⟩=some v':=hblk.cell 0;have f0:wr.frozen? ⟨w.heap.size,0,none⟩=false:=hblk.froz 0;have hwz:=hblk.lt;have HA:=lH hacc;have HB:=lH hb;have HK:=lH hblk;have HO:=lH hown;clear hacc hb hblk hown;by_cases hlt:k<l.length
  ·have hk1:decide ((k:Int)<(l.length:Int))=true:=dT (by omega)
   obtain⟨b,off,hp,h1⟩:=HC.out k hlt wr HB.out;subst hp;obtain⟨s,hs⟩:∃s,s=l[k]:=⟨_,rfl⟩;rw[<-hs] at h1;have hS:=HFS.out k hlt;rw[HA.out,<-hs] at hS;have hss:s.size<=500000:=by have:=nY (l:=l) (x:=s) (by rw[hs];exact List.getElem_mem hlt);have:=HT.out;omega
   have HS:=lH hS;have HSS:=lH hss;have hal:=HFL.out k hk acc HA.out;have hat:=HFT.out k hk acc HA.out;clear hs hS hss;cases hg:nE s with
   | false=>
     have HGO:Hid (∀W:World,Calls Tryz.prog 173 #[.string s] W fun e w'=>e=.returned (.bool false)/\W=w'):=fun W=>by have:=lp s W;rw[hg] at this;exact this
     have hS2:F (l.take (k+1))=some (acc++[s]):=by rw[HS.out];simp only[db];rw[if_pos hg]
     have HS2:=lH hS2;clear hS2 HS hg;go_wp2_with (first|(go_at_call 173;refine(HGO.out _).mono ?_;rintro e' w' ⟨rfl,rfl⟩)|(at_builtin;refine dR rfl _ _ rfl rfl HO.out s rfl (by omega) (by omega) ?_))
     intro p1 c1 w1 hown1 hg1 hb1;have hne:v'.ownBlock≠some w.heap.size:=fun e=>by have:=(HO.out.lt _ e).1;omega
     have hK1:=oo (HK.out.alloc (.cells #[.string s] 9)) hg1 hne;have q1:w1.cell? ⟨w.heap.size,0,none⟩=some v':=hK1.cell 0;have f1:w1.frozen? ⟨w.heap.size,0,none⟩=false:=hK1.froz 0;have HO1:=lH hown1;have HK1:=lH hK1;have HB1:=lH (HB.out.trans (hb1.mono (by omega)));clear hown1 hg1 hb1 hne hK1;go_wp2_with fail
     go_roundw
     case rel=>
      refine⟨k+1,acc++[s],.slice p1 (acc.length+1) c1,by omega,by go_num,HS2.out,?_,?_,HB1.out.setCell (nR _) _⟩
      ·have:=HK1.out.set 0 (.slice p1 (acc.length+1) c1)
       simpa using this
      ·exact cB HO1.out (Nat.lt_succ_self _) _ _
     case measure=>simp[intOf];omega
   | true=>
     have HGO:Hid (∀W:World,Calls Tryz.prog 173 #[.string s] W fun e w'=>e=.returned (.bool true)/\W=w'):=fun W=>by have:=lp s W;rw[hg] at this;exact this
     by_cases hf:fold=0
     ·have hf1:(fold==0)=true:=by rw[uB];exact hf
      have hS2:F l=none:=HFN.out (k+1) (by rw[HS.out];simp only[db];rw[if_neg (by rw[hg];simp),if_pos (Or.inl hf)]);have HS2:=lH hS2;clear hS2 HS hg hf;go_wp2_with (go_at_call 173;refine(HGO.out _).mono ?_;rintro e' w' ⟨rfl,rfl⟩)
      go_ret2
      refine⟨.slice none 0 0,?_,?_,HB.out⟩
      ·rw[HS2.out];rfl
      ·rw[HS2.out];rfl
     ·have hf1:(fold==0)=false:=by rw[tT];exact hf
      obtain⟨p1,c1,rfl⟩:=HO.out.shape;by_cases ha:acc=[]
      ·have ha1:((acc.length:Int)==0)=true:=by rw[ha];rfl
       have hS2:F l=none:=HFN.out (k+1) (by rw[HS.out];simp only[db];rw[if_neg (by rw[hg];simp),if_pos (Or.inr ha)]);have HS2:=lH hS2;clear hS2 HS hg hf ha;go_wp2_with (go_at_call 173;refine(HGO.out _).mono ?_;rintro e' w' ⟨rfl,rfl⟩)
       go_ret2
       refine⟨.slice none 0 0,?_,?_,HB.out⟩
       ·rw[HS2.out];rfl
       ·rw[HS2.out];rfl
      ·obtain⟨m,hm⟩:∃m,acc.length=m+1:=⟨acc.length - 1,by cases acc with|nil=>exact absurd rfl ha|cons a t=>simp⟩
       have ha1:((acc.length:Int)==0)=false:=by rw[tT];omega
       obtain⟨x,hx⟩:∃x,acc[m]? = some x:=⟨_,tW (by omega)⟩
       have hS2:F (l.take (k+1))=some (acc.set m (gr x s)):=by
        rw[HS.out];simp only[db];rw[if_neg (by rw[hg];simp),if_neg (by rintro (e|e);exact hf e;exact ha e)];rw[show acc.length - 1=m by omega,List.getD_eq_getElem?_getD,hx];rfl
       have HS2:=lH hS2;have HJ:=lH (qU s x w.heap.size m acc _ wr HK.out HO.out hm hx (by omega) (hat _ (List.mem_of_getElem? hx)) (by have:=HSS.out;omega));clear hS2 HS hg hf ha hm hx;go_wp2_with (first|(go_at_call 173;refine(HGO.out _).mono ?_;rintro e' w' ⟨rfl,rfl⟩)|(go_at_call 170;refine HJ.out.mono ?_;rintro e' w1 ⟨rfl,hk1',ho1,hb1⟩;have HJ1:=lH (And.intro hk1' (And.intro ho1 hb1));clear hk1' ho1 hb1))
       go_roundw
       case rel=>
        refine⟨k+1,acc.set m (gr x s),_,by omega,by go_num,HS2.out,HJ1.out.1,HJ1.out.2.1,HB.out.trans HJ1.out.2.2⟩
       case measure=>simp[intOf];omega
  ·have hk1:decide ((k:Int)<(l.length:Int))=false:=dF (by omega)
   have hS2:F l=some acc:=by have:=HA.out;rwa [uu (by omega)] at this
   have HS2:=lH hS2;clear hS2;go_wp2_with fail
   go_ret2
   refine⟨v',?_,?_,HB.out⟩
   ·rw[HS2.out];rfl
   ·rw[HS2.out];exact HO.out.lower (uN _)
end Go.Proofs.YthjbodpeckebiaaGreatDoor
-- UnfoldR
namespace Go.Proofs.YthjbodpeckebiaaGreatDoor
open Go.RowKit
end Go.Proofs.YthjbodpeckebiaaGreatDoor
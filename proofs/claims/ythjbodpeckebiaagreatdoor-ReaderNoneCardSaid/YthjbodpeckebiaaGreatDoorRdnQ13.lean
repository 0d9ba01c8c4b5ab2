/- Texts packed for one claim, 13 of 48: FieldAll FieldAllW FieldAllR. -/
import Derived.Test.YthjbodpeckebiaaGreatDoorRdnQ10
import Derived.Test.YthjbodpeckebiaaGreatDoorRdnQ12
set_option maxRecDepth 100000
set_option maxHeartbeats 16000000
set_option linter.unusedSimpArgs false
set_option linter.unusedVariables false
-- FieldAll
namespace Go.Proofs.YthjbodpeckebiaaGreatDoor
open Go.RowKit
def gR:List ByteArray->List Fd×Int
 | []=>([],0)
 | s :: l=>if (aR s).2≠0 then ([],(aR s).2) else if (gR l).2≠0 then ([],(gR l).2) else ((aR s).1 :: (gR l).1,0)
theorem nP:∀l:List ByteArray,(∀k (h:k<l.length),(aR l[k]).2=0)->gR l=(l.map fun s=>(aR s).1,0)
 | [],_=>rfl
 | s :: l,h=>by
   have h0:=h 0 (by simp);have h1:=nP l (fun k hk=>h (k+1) (by simpa using hk));unfold gR;rw[if_neg (by simpa using h0),h1];rfl
theorem lL:∀(l:List ByteArray) (k:Nat) (hk:k<l.length),(∀j (h:j<l.length),j<k->(aR l[j]).2=0)->(aR l[k]).2≠0->gR l=([],(aR l[k]).2)
 | [],_,hk,_,_=>absurd hk (uL _)
 | s :: l,0,_,_,h=>by unfold gR;exact if_pos h
 | s :: l,k+1,hk,h,he=>by
   have h0:=h 0 (by simp) (Nat.succ_pos _);have hkl:k<l.length:=by simpa using hk
   have h1:=lL l k hkl (fun j hj hjk=>h (j+1) (by simpa using hj) (by omega)) (by simpa using he);have he':(aR l[k]).2≠0:=by simpa using he
   unfold gR;rw[if_neg (by simpa using h0),h1];show (if (aR l[k]).2≠0 then (([]:List Fd),(aR l[k]).2) else ((aR s).1 :: [],0))=([],(aR l[k]).2);rw[if_pos he']
def bN (fold:Int) (l:List ByteArray):List Fd×Int:=match bY fold l with|none=>([],3)|some out=>gR out
def aj (w:World) (B:Nat) (v:Value) (l:List Fd):Prop:=w.ownsRow B 95 2 v l.length (bH l)
theorem aj.start (w:World) (B:Nat):aj w B (.slice none 0 0) []:=uz _ _ _ _
theorem aj.keep {P:Nat->Prop} {w w1:World} {B:Nat} {v:Value} {l:List Fd} (h:aj w B v l) (ht:aa P w w1) (hP:∀g,B<=g->¬P g):aj w1 B v l:=by
 obtain⟨h1,h2⟩:=h;refine⟨h1,?_⟩;rcases h2 with h2|⟨g,cap,cur,hv,hB,hg,rest⟩
 ·exact Or.inl h2
 ·exact Or.inr ⟨g,cap,cur,hv,hB,(ht.block g ((ua.1 hg).1) (hP g hB)).trans hg,rest⟩
theorem aj.call {w w1:World} {B:Nat} {v:Value} {l:List Fd} (h:aj w B v l) (hb:Below w.heap.size w w1):aj w1 B v l:=h.keep (P:=fun _=>False) (aa.of_below hb) (fun _ _=>id)
theorem aj.alloc {w:World} {B:Nat} {v:Value} {l:List Fd} (h:aj w B v l) (o:Obj):aj (w.alloc o) B v l:=h.keep (P:=fun _=>False) ((aa.refl _ w).alloc o) (fun _ _=>id)
theorem aj.lower {w:World} {B B':Nat} {v:Value} {l:List Fd} (h:aj w B v l) (hB:B'<=B):aj w B' v l:=by
 obtain⟨h1,h2⟩:=h;refine⟨h1,?_⟩;rcases h2 with h2|⟨g,cap,cur,hv,hg,rest⟩
 ·exact Or.inl h2
 ·exact Or.inr ⟨g,cap,cur,hv,by omega,rest⟩
theorem aj.flds {w:World} {B:Nat} {v:Value} {l:List Fd} (h:aj w B v l):bL w v l:=bL.of_own h
theorem lm (f:Fd):∀(l:List Fd) (i:Nat),i<l.length->((bH l).set (i*2) (.string f.1)).set (i*2+1) (.string f.2)=bH (l.set i f)
 | [],_,h=>absurd h (uL _)
 | a :: l,0,_=>rfl
 | a :: l,i+1,h=>by
   have:=lm f l i (by simpa using h);show ((Value.string a.1 :: Value.string a.2 :: bH l).set ((i+1)*2) _).set ((i+1)*2+1) _=Value.string a.1 :: Value.string a.2 :: bH (l.set i f);rw[show (i+1)*2=i*2+1+1 by omega];simp only[lC];rw[this]
theorem aj.set {w:World} {B g cap:Nat} {l:List Fd} {n:Nat} (hn:n=l.length) (h:aj w B (.slice (some ⟨g,0,none⟩) n cap) l) (i:Nat) (hi:i<l.length) (f:Fd):
 aj ((w.setCell ⟨g,i*2,none⟩ (.string f.1)).setCell ⟨g,i*2+1,none⟩ (.string f.2)) B (.slice (some ⟨g,0,none⟩) n cap) (l.set i f):=by
 subst hn;have h1:=(World.ownsRow.stored h (i*2) (.string f.1)).1;have h2:=(World.ownsRow.stored h1 (i*2+1) (.string f.2)).1;rw[lm f l i hi] at h2;show World.ownsRow _ _ _ _ _ (l.set i f).length _;rw[List.length_set];exact h2
theorem aj.froz {w:World} {B g cap:Nat} {l:List Fd} {n:Nat} (hn:n=l.length) (h:aj w B (.slice (some ⟨g,0,none⟩) n cap) l) (j:Nat):w.frozen? ⟨g,j,none⟩=false:=by
 subst hn;exact World.ownsRow.frozenAt h j
theorem aj.at {w:World} {B g cap:Nat} {l:List Fd} {n:Nat} (hn:n=l.length) (h:aj w B (.slice (some ⟨g,0,none⟩) n cap) l) (k:Nat) (hk:k<n):∃a b,w.cell? ⟨g,k*2,none⟩=some (.string a)/\w.cell? ⟨g,k*2+1,none⟩=some (.string b):=by
 subst hn;have h1:=World.ownsRow.cellAt h (k*2) (by omega);have h2:=World.ownsRow.cellAt h (k*2+1) (by omega);obtain⟨a1,a2⟩:=gY l k hk;rw[Nat.mul_comm] at a1 a2;exact⟨_,_,h1.trans a1,h2.trans a2⟩
theorem o6 (n:Nat):(madeCells (Value.cells (.agg #[.string ⟨#[]⟩,.string ⟨#[]⟩])) (n*2)).toList=bH (List.replicate n (⟨#[]⟩,⟨#[]⟩)):=by
 apply List.ext_getElem?;intro j;by_cases hj:j<n*2
 ·have hl:j<(bH (List.replicate n ((⟨#[]⟩,⟨#[]⟩):Fd))).length:=by rw[cT];simpa using hj
  have hk:j / 2<(List.replicate n ((⟨#[]⟩,⟨#[]⟩):Fd)).length:=by simp;omega
  obtain⟨a1,a2⟩:=gY (List.replicate n ((⟨#[]⟩,⟨#[]⟩):Fd)) (j / 2) hk;rw[List.getElem_replicate] at a1 a2
  have e:(madeCells (Value.cells (.agg #[.string ⟨#[]⟩,.string ⟨#[]⟩])) (n*2)).toList[j]? = some (.string ⟨#[]⟩):=by
   have h01:j % 2=0\/j % 2=1:=by omega
   rcases h01 with h01|h01<;>simp[madeCells,Value.cells,hj,h01]
  rw[e];rcases Nat.mod_two_eq_zero_or_one j with h|h
  ·rw[show j=2*(j / 2) by omega,a1]
  ·rw[show j=2*(j / 2)+1 by omega,a2]
 ·rw[uH (by simp[madeCells];omega),uH (by rw[cT];simp;omega)]
end Go.Proofs.YthjbodpeckebiaaGreatDoor
-- FieldAllW
namespace Go.Proofs.YthjbodpeckebiaaGreatDoor
open Go.RowKit
theorem lg (fold:Int) (v:Value) (l:List ByteArray) (w:World) {mx:Int} (hm:w.cell? ⟨0,0,none⟩=some (.int .i64 mx)) (h:dy w v l) (hn:l.length<=500000) (ht:du l<=500000):
 Calls Tryz.prog 108 #[.int .i64 fold,v] w fun e w'=>∃v',e=.returned (.tuple #[v',.int .i64 (bN fold l).2])/\aj w' w.heap.size v' (bN fold l).1/\Below w.heap.size w w':=by
 have HU:=lH (nu fold v l w h hn ht);obtain⟨i0,hi,hz0,hz1,hz2⟩:=info_parts iw;cases hu:bY fold l with
 | none=>
   have hA:bN fold l=([],3):=by unfold bN;rw[hu]
   have HA:=lH hA;have HU2:=HU.out;rw[hu] at HU2;have HU2:=lH HU2;clear hA hm h hn ht hu HU hi hz0 hz1 hz2;go_enter Tryz.func108,Tryz.ntmps108
   go_wp2_with (go_at_call 139;refine HU2.out.mono ?_;rintro e' w1 ⟨v1,rfl,hv1,hb1⟩;have HB1:=lH hb1;clear hb1;have hv1:v1=.slice none 0 0:=hv1;subst hv1)
   go_ret2
   refine⟨.slice none 0 0,?_,?_,HB1.out⟩
   ·rw[HA.out];rfl
   ·rw[HA.out];exact aj.start _ _
 | some out=>
   have hA:bN fold l=gR out:=by unfold bN;rw[hu]
   have HA:=lH hA;have HU2:=HU.out;rw[hu] at HU2;have HU2:=lH HU2
   have hlen:out.length<=l.length:=by
    have:=(gi fold l l.length (nR _) out (by rw[uW];exact hu)).1;exact this
   have hsz:∀x∈out,x.size<=1000000:=fun x hx=>by
    have:=l6 (nR l.length) (by rw[uW];exact hu) hx;omega
   have HSZ:=lH hsz;obtain⟨n,hnn⟩:∃n,n=out.length:=⟨_,rfl⟩;have hn5:n<=500000:=by omega
   have HN:=lH hnn;have HM:=lH hm;clear hA hm h hn ht hu HU hlen hsz hnn;go_enter Tryz.func108,Tryz.ntmps108
   go_wp2_with (first|(at_make;refine wpList_make_full _ rfl _ _ 42 rfl w1.heap.size 95 i0 _ 2 Tryz.underlying42 hi hz0 hz1 .i64 .i64 (n:Int) (n:Int) n ?hl ?hc rfl rfl ?b2 ?b3 (nR _) ?_)|(go_at_call 139;refine HU2.out.mono ?_;rintro e' w1 ⟨v1,rfl,hv1,hb1⟩;have HB1:=lH hb1;have HO1:=lH (show ao w1 w.heap.size v1 out from hv1);clear hb1 hv1;obtain⟨p1,c1,hsh,hcell⟩:=HO1.out.strs;rw[<-HN.out] at hsh;subst hsh;have HCE:=lH hcell;clear hcell))
   case hl=>rfl
   case hc=>rfl
   case b2=>rw[hz2];omega
   case b3=>unfold maxLen;omega
   intro w2 hown2 hg2
   have hO2:aj w2 w1.heap.size (.slice (some ⟨w1.heap.size,0,none⟩) n n) (List.replicate n (⟨#[]⟩,⟨#[]⟩)):=by
    show w2.ownsRow _ _ _ _ (List.replicate n (_:Fd)).length _;rw[List.length_replicate,<-o6];exact hown2
   have hb2:Below w1.heap.size w1 w2:=(tU _ _).grown hg2 (nR _) (fun j hj=>by cases hj);have HO2:=lH hO2;have HB2:=lH hb2;clear hown2 hg2 hO2 hb2;have hlt2:w1.heap.size<w2.heap.size:=(HO2.out.lt _ rfl).2;go_wp2_with fail
   go_loopw [7,25] (fun u7 u25 wr=>∃(k:Nat) (L:List Fd),k<=n/\u25=.int .i64 k/\u7=.int .i64 0/\n=L.length/\aj wr w1.heap.size (.slice (some ⟨w1.heap.size,0,none⟩) n n) L/\(∀j (hj:j<out.length),j<k->L[j]? = some (aR out[j]).1/\(aR out[j]).2=0)/\Below w1.heap.size w1 wr) (fun _ u25 _=>n - (intOf u25).toNat)
   case atStart=>exact⟨0,_,tX _,rfl,rfl,by simp,HO2.out,fun j _ hj=>absurd hj (uL _),HB2.out⟩
   case round=>
    obtain⟨k,L,hk,rfl,rfl,hL,hown,hpre,hb⟩:=hrel;have HO:=lH hown;have HP:=lH hpre;have HB:=lH hb;have HL:=lH hL;clear hown hpre hb hL;by_cases hlt:k<n
    ·have hk1:decide ((k:Int)<(n:Int))=true:=dT (by omega)
     have hko:k<out.length:=by have:=HN.out;omega
     obtain⟨b,off,hp,h1⟩:=HCE.out k hko;subst hp;have h2:=(dY HB.out b _ (t8 _ _ h1)).trans h1;obtain⟨s,hs⟩:∃s,s=out[k]:=⟨_,rfl⟩;rw[<-hs] at h2;have hss:s.size<=1000000:=HSZ.out s (by rw[hs];exact List.getElem_mem hko);have HPA:=lH (mw s hss wr (bP HM.out (HB1.out.trans (HB.out.mono HB1.out.size))));have HSO:=lH hs;have HKO:=lH hko;obtain⟨f,hf⟩:∃f,aR s=f:=⟨_,rfl⟩;obtain⟨⟨f1,f2⟩,f3⟩:=f;rw[hf] at HPA;have HF:=lH hf;have hwr:w1.heap.size<wr.heap.size:=(HO.out.lt _ rfl).2;have fz1:=aj.froz HL.out HO.out (k*2);have fz2:=aj.froz HL.out HO.out (k*2+1);clear hs hss hf h1;by_cases h3:f3=0
     ·subst h3
      go_wp2_with (go_at_call 140;refine HPA.out.mono ?_;rintro e' w3 ⟨rfl,hb3⟩;have HB3:=lH hb3;have HO3:=lH (HO.out.call hb3);have fz3:=aj.froz HL.out HO3.out (k*2);have fz4:=aj.froz HL.out HO3.out (k*2+1);have hw3:w1.heap.size<w3.heap.size:=(HO3.out.lt _ rfl).2;obtain⟨z1,z2,y1,y2⟩:=aj.at HL.out HO3.out k hlt;clear hb3)
      go_roundw
      case rel=>
       have hL:=HL.out;refine⟨k+1,L.set k (f1,f2),by omega,by go_num,rfl,by rw[List.length_set];exact hL,?_,?_,?_⟩
       ·exact aj.set hL HO3.out k (by omega) (f1,f2)
       ·intro j hj hjk
        by_cases e:j=k
        ·subst e
         rw[List.getElem?_set_self (by omega),<-HSO.out,HF.out];exact⟨rfl,rfl⟩
        ·rw[List.getElem?_set_ne (Ne.symm e)]
         exact HP.out j hj (by omega)
       ·exact((HB.out.trans (HB3.out.mono (Nat.le_of_lt hwr))).setCell (nR _) _).setCell (nR _) _
      case measure=>simp[intOf];omega
     ·have hne:(f3 != 0)=true:=by simpa using h3
      have hA2:bN fold l=([],f3):=by
       rw[HA.out,lL out k HKO.out (fun j hj hjk=>(HP.out j hj hjk).2) (by rw[<-HSO.out,HF.out];exact h3),<-HSO.out,HF.out]
      have HA2:=lH hA2;clear hA2 h3;go_wp2_with (go_at_call 140;refine HPA.out.mono ?_;rintro e' w3 ⟨rfl,hb3⟩;have HB3:=lH hb3;have HO3:=lH (HO.out.call hb3);have fz3:=aj.froz HL.out HO3.out (k*2);have fz4:=aj.froz HL.out HO3.out (k*2+1);have hw3:w1.heap.size<w3.heap.size:=(HO3.out.lt _ rfl).2;obtain⟨z1,z2,y1,y2⟩:=aj.at HL.out HO3.out k hlt;clear hb3)
      go_ret2
      refine⟨.slice none 0 0,?_,?_,?_⟩
      ·rw[HA2.out];rfl
      ·rw[HA2.out];exact aj.start _ _
      ·exact HB1.out.trans ((((HB.out.trans (HB3.out.mono (Nat.le_of_lt hwr))).setCell (nR _) _).setCell (nR _) _).mono HB1.out.size)
    ·have hk1:decide ((k:Int)<(n:Int))=false:=dF (by omega)
     have hA2:bN fold l=(L,0):=by
      rw[HA.out,nP out (fun j hj=>(HP.out j hj (by have:=HN.out;omega)).2)];refine Prod.ext (List.ext_getElem? fun j=>?_) rfl;show (out.map fun s=>(aR s).1)[j]? = L[j]?;by_cases hj:j<out.length
      ·rw[(HP.out j hj (by have:=HN.out;omega)).1,u2,tW hj]
       rfl
      ·rw[uH (by rw[List.length_map];omega),uH (by have:=HN.out;have:=HL.out;omega)]
     have HA2:=lH hA2;clear hA2;go_wp2_with fail
     go_ret2
     refine⟨.slice (some ⟨w1.heap.size,0,none⟩) n n,?_,?_,HB1.out.trans (HB.out.mono HB1.out.size)⟩
     ·rw[HA2.out];rfl
     ·rw[HA2.out];exact HO.out.lower HB1.out.size
end Go.Proofs.YthjbodpeckebiaaGreatDoor
-- FieldAllR
namespace Go.Proofs.YthjbodpeckebiaaGreatDoor
open Go.RowKit
theorem aj.empty (w:World):aj (w.alloc (.cells #[] 95)) w.heap.size (.slice (some ⟨w.heap.size,0,none⟩) 0 0) []:=World.ownsRow_lit w #[] 0 (nR _) (by decide) rfl
end Go.Proofs.YthjbodpeckebiaaGreatDoor
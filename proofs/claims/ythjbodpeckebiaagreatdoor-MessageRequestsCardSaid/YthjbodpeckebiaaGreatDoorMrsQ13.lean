/- Texts packed for one claim, 13 of 52: FieldAll FieldAllW FieldAllR. -/
import Derived.Test.YthjbodpeckebiaaGreatDoorMrsQ10
import Derived.Test.YthjbodpeckebiaaGreatDoorMrsQ12
set_option maxRecDepth 100000
set_option maxHeartbeats 16000000
set_option linter.unusedSimpArgs false
set_option linter.unusedVariables false
-- FieldAll
namespace Go.Proofs.YthjbodpeckebiaaGreatDoor
open Go.RowKit
def jD:List ByteArray->List Fd×Int
 | []=>([],0)
 | s :: l=>if (aN s).2≠0 then ([],(aN s).2) else if (jD l).2≠0 then ([],(jD l).2) else ((aN s).1 :: (jD l).1,0)
theorem r8:∀l:List ByteArray,(∀k (h:k<l.length),(aN l[k]).2=0)->jD l=(l.map fun s=>(aN s).1,0)
 | [],_=>rfl
 | s :: l,h=>by
   have h0:=h 0 (by simp);have h1:=r8 l (fun k hk=>h (k+1) (by simpa using hk));unfold jD;rw[if_neg (by simpa using h0),h1];rfl
theorem oV:∀(l:List ByteArray) (k:Nat) (hk:k<l.length),(∀j (h:j<l.length),j<k->(aN l[j]).2=0)->(aN l[k]).2≠0->jD l=([],(aN l[k]).2)
 | [],_,hk,_,_=>absurd hk (FS _)
 | s :: l,0,_,_,h=>by unfold jD;exact if_pos h
 | s :: l,k+1,hk,h,he=>by
   have h0:=h 0 (by simp) (Nat.succ_pos _);have hkl:k<l.length:=by simpa using hk
   have h1:=oV l k hkl (fun j hj hjk=>h (j+1) (by simpa using hj) (by omega)) (by simpa using he);have he':(aN l[k]).2≠0:=by simpa using he
   unfold jD;rw[if_neg (by simpa using h0),h1];show (if (aN l[k]).2≠0 then (([]:List Fd),(aN l[k]).2) else ((aN s).1 :: [],0))=([],(aN l[k]).2);rw[if_pos he']
def bq (fold:Int) (l:List ByteArray):List Fd×Int:=match cY fold l with|none=>([],3)|some out=>jD out
def ao (w:World) (B:Nat) (v:Value) (l:List Fd):Prop:=w.ownsRow B 95 2 v l.length (di l)
theorem ao.start (w:World) (B:Nat):ao w B (.slice none 0 0) []:=Fv _ _ _ _
theorem ao.keep {P:Nat->Prop} {w w1:World} {B:Nat} {v:Value} {l:List Fd} (h:ao w B v l) (ht:aa P w w1) (hP:∀g,B<=g->¬P g):ao w1 B v l:=by
 obtain⟨h1,h2⟩:=h;refine⟨h1,?_⟩;rcases h2 with h2|⟨g,cap,cur,hv,hB,hg,rest⟩
 ·exact Or.inl h2
 ·exact Or.inr ⟨g,cap,cur,hv,hB,(ht.block g ((EV.1 hg).1) (hP g hB)).trans hg,rest⟩
theorem ao.call {w w1:World} {B:Nat} {v:Value} {l:List Fd} (h:ao w B v l) (hb:Below w.heap.size w w1):ao w1 B v l:=h.keep (P:=fun _=>False) (aa.of_below hb) (fun _ _=>id)
theorem ao.alloc {w:World} {B:Nat} {v:Value} {l:List Fd} (h:ao w B v l) (o:Obj):ao (w.alloc o) B v l:=h.keep (P:=fun _=>False) ((aa.refl _ w).alloc o) (fun _ _=>id)
theorem ao.lower {w:World} {B B':Nat} {v:Value} {l:List Fd} (h:ao w B v l) (hB:B'<=B):ao w B' v l:=by
 obtain⟨h1,h2⟩:=h;refine⟨h1,?_⟩;rcases h2 with h2|⟨g,cap,cur,hv,hg,rest⟩
 ·exact Or.inl h2
 ·exact Or.inr ⟨g,cap,cur,hv,by omega,rest⟩
theorem ao.flds {w:World} {B:Nat} {v:Value} {l:List Fd} (h:ao w B v l):cu w v l:=cu.of_own h
theorem tu (f:Fd):∀(l:List Fd) (i:Nat),i<l.length->((di l).set (i*2) (.string f.1)).set (i*2+1) (.string f.2)=di (l.set i f)
 | [],_,h=>absurd h (FS _)
 | a :: l,0,_=>rfl
 | a :: l,i+1,h=>by
   have:=tu f l i (by simpa using h);show ((Value.string a.1 :: Value.string a.2 :: di l).set ((i+1)*2) _).set ((i+1)*2+1) _=Value.string a.1 :: Value.string a.2 :: di (l.set i f);rw[show (i+1)*2=i*2+1+1 by omega];simp only[lC];rw[this]
theorem ao.set {w:World} {B g cap:Nat} {l:List Fd} {n:Nat} (hn:n=l.length) (h:ao w B (.slice (some ⟨g,0,none⟩) n cap) l) (i:Nat) (hi:i<l.length) (f:Fd):
 ao ((w.setCell ⟨g,i*2,none⟩ (.string f.1)).setCell ⟨g,i*2+1,none⟩ (.string f.2)) B (.slice (some ⟨g,0,none⟩) n cap) (l.set i f):=by
 subst hn;have h1:=(World.ownsRow.stored h (i*2) (.string f.1)).1;have h2:=(World.ownsRow.stored h1 (i*2+1) (.string f.2)).1;rw[tu f l i hi] at h2;show World.ownsRow _ _ _ _ _ (l.set i f).length _;rw[List.length_set];exact h2
theorem ao.froz {w:World} {B g cap:Nat} {l:List Fd} {n:Nat} (hn:n=l.length) (h:ao w B (.slice (some ⟨g,0,none⟩) n cap) l) (j:Nat):w.frozen? ⟨g,j,none⟩=false:=by
 subst hn;exact World.ownsRow.frozenAt h j
theorem ao.at {w:World} {B g cap:Nat} {l:List Fd} {n:Nat} (hn:n=l.length) (h:ao w B (.slice (some ⟨g,0,none⟩) n cap) l) (k:Nat) (hk:k<n):∃a b,w.cell? ⟨g,k*2,none⟩=some (.string a)/\w.cell? ⟨g,k*2+1,none⟩=some (.string b):=by
 subst hn;have h1:=World.ownsRow.cellAt h (k*2) (by omega);have h2:=World.ownsRow.cellAt h (k*2+1) (by omega);obtain⟨a1,a2⟩:=m8 l k hk;rw[Nat.mul_comm] at a1 a2;exact⟨_,_,h1.trans a1,h2.trans a2⟩
theorem zt (n:Nat):(madeCells (Value.cells (.agg #[.string ⟨#[]⟩,.string ⟨#[]⟩])) (n*2)).toList=di (List.replicate n (⟨#[]⟩,⟨#[]⟩)):=by
 apply List.ext_getElem?;intro j;by_cases hj:j<n*2
 ·have hl:j<(di (List.replicate n ((⟨#[]⟩,⟨#[]⟩):Fd))).length:=by rw[fS];simpa using hj
  have hk:j / 2<(List.replicate n ((⟨#[]⟩,⟨#[]⟩):Fd)).length:=by simp;omega
  obtain⟨a1,a2⟩:=m8 (List.replicate n ((⟨#[]⟩,⟨#[]⟩):Fd)) (j / 2) hk;rw[List.getElem_replicate] at a1 a2
  have e:(madeCells (Value.cells (.agg #[.string ⟨#[]⟩,.string ⟨#[]⟩])) (n*2)).toList[j]? = some (.string ⟨#[]⟩):=by
   have h01:j % 2=0\/j % 2=1:=by omega
   rcases h01 with h01|h01<;>simp[madeCells,Value.cells,hj,h01]
  rw[e];rcases Nat.mod_two_eq_zero_or_one j with h|h
  ·rw[show j=2*(j / 2) by omega,a1]
  ·rw[show j=2*(j / 2)+1 by omega,a2]
 ·rw[FO (by simp[madeCells];omega),FO (by rw[fS];simp;omega)]
end Go.Proofs.YthjbodpeckebiaaGreatDoor
-- FieldAllW
namespace Go.Proofs.YthjbodpeckebiaaGreatDoor
open Go.RowKit
theorem tZ (fold:Int) (v:Value) (l:List ByteArray) (w:World) {mx:Int} (hm:w.cell? ⟨0,0,none⟩=some (.int .i64 mx)) (h:cQ w v l) (hn:l.length<=500000) (ht:dX l<=500000):
 Calls Tryz.prog 108 #[.int .i64 fold,v] w fun e w'=>∃v',e=.returned (.tuple #[v',.int .i64 (bq fold l).2])/\ao w' w.heap.size v' (bq fold l).1/\Below w.heap.size w w':=by
 have HU:=lH (uK fold v l w h hn ht);obtain⟨i0,hi,hz0,hz1,hz2⟩:=info_parts jX;cases hu:cY fold l with
 | none=>
   have hA:bq fold l=([],3):=by unfold bq;rw[hu]
   have HA:=lH hA;have HU2:=HU.out;rw[hu] at HU2;have HU2:=lH HU2;clear hA hm h hn ht hu HU hi hz0 hz1 hz2;go_enter Tryz.func108,Tryz.ntmps108
   go_wp2_with (go_at_call 139;refine HU2.out.mono ?_;rintro e' w1 ⟨v1,rfl,hv1,hb1⟩;have HB1:=lH hb1;clear hb1;have hv1:v1=.slice none 0 0:=hv1;subst hv1)
   go_ret2
   refine⟨.slice none 0 0,?_,?_,HB1.out⟩
   ·rw[HA.out];rfl
   ·rw[HA.out];exact ao.start _ _
 | some out=>
   have hA:bq fold l=jD out:=by unfold bq;rw[hu]
   have HA:=lH hA;have HU2:=HU.out;rw[hu] at HU2;have HU2:=lH HU2
   have hlen:out.length<=l.length:=by
    have:=(ik fold l l.length (nR _) out (by rw[F8];exact hu)).1;exact this
   have hsz:∀x∈out,x.size<=1000000:=fun x hx=>by
    have:=kL (nR l.length) (by rw[F8];exact hu) hx;omega
   have HSZ:=lH hsz;obtain⟨n,hnn⟩:∃n,n=out.length:=⟨_,rfl⟩;have hn5:n<=500000:=by omega
   have HN:=lH hnn;have HM:=lH hm;clear hA hm h hn ht hu HU hlen hsz hnn;go_enter Tryz.func108,Tryz.ntmps108
   go_wp2_with (first|(at_make;refine wpList_make_full _ rfl _ _ 42 rfl w1.heap.size 95 i0 _ 2 Tryz.underlying42 hi hz0 hz1 .i64 .i64 (n:Int) (n:Int) n ?hl ?hc rfl rfl ?b2 ?b3 (nR _) ?_)|(go_at_call 139;refine HU2.out.mono ?_;rintro e' w1 ⟨v1,rfl,hv1,hb1⟩;have HB1:=lH hb1;have HO1:=lH (show ap w1 w.heap.size v1 out from hv1);clear hb1 hv1;obtain⟨p1,c1,hsh,hcell⟩:=HO1.out.strs;rw[<-HN.out] at hsh;subst hsh;have HCE:=lH hcell;clear hcell))
   case hl=>rfl
   case hc=>rfl
   case b2=>rw[hz2];omega
   case b3=>unfold maxLen;omega
   intro w2 hown2 hg2
   have hO2:ao w2 w1.heap.size (.slice (some ⟨w1.heap.size,0,none⟩) n n) (List.replicate n (⟨#[]⟩,⟨#[]⟩)):=by
    show w2.ownsRow _ _ _ _ (List.replicate n (_:Fd)).length _;rw[List.length_replicate,<-zt];exact hown2
   have hb2:Below w1.heap.size w1 w2:=(EK _ _).grown hg2 (nR _) (fun j hj=>by cases hj);have HO2:=lH hO2;have HB2:=lH hb2;clear hown2 hg2 hO2 hb2;have hlt2:w1.heap.size<w2.heap.size:=(HO2.out.lt _ rfl).2;go_wp2_with fail
   go_loopw [7,25] (fun u7 u25 wr=>∃(k:Nat) (L:List Fd),k<=n/\u25=.int .i64 k/\u7=.int .i64 0/\n=L.length/\ao wr w1.heap.size (.slice (some ⟨w1.heap.size,0,none⟩) n n) L/\(∀j (hj:j<out.length),j<k->L[j]? = some (aN out[j]).1/\(aN out[j]).2=0)/\Below w1.heap.size w1 wr) (fun _ u25 _=>n - (intOf u25).toNat)
   case atStart=>exact⟨0,_,EN _,rfl,rfl,by simp,HO2.out,fun j _ hj=>absurd hj (FS _),HB2.out⟩
   case round=>
    obtain⟨k,L,hk,rfl,rfl,hL,hown,hpre,hb⟩:=hrel;have HO:=lH hown;have HP:=lH hpre;have HB:=lH hb;have HL:=lH hL;clear hown hpre hb hL;by_cases hlt:k<n
    ·have hk1:decide ((k:Int)<(n:Int))=true:=dT (by omega)
     have hko:k<out.length:=by have:=HN.out;omega
     obtain⟨b,off,hp,h1⟩:=HCE.out k hko;subst hp;have h2:=(bL HB.out b _ (ET _ _ h1)).trans h1;obtain⟨s,hs⟩:∃s,s=out[k]:=⟨_,rfl⟩;rw[<-hs] at h2;have hss:s.size<=1000000:=HSZ.out s (by rw[hs];exact FT hko);have HPA:=lH (wh s hss wr (eu HM.out (HB1.out.trans (HB.out.mono HB1.out.size))));have HSO:=lH hs;have HKO:=lH hko;obtain⟨f,hf⟩:∃f,aN s=f:=⟨_,rfl⟩;obtain⟨⟨f1,f2⟩,f3⟩:=f;rw[hf] at HPA;have HF:=lH hf;have hwr:w1.heap.size<wr.heap.size:=(HO.out.lt _ rfl).2;have fz1:=ao.froz HL.out HO.out (k*2);have fz2:=ao.froz HL.out HO.out (k*2+1);clear hs hss hf h1;by_cases h3:f3=0
     ·subst h3
      go_wp2_with (go_at_call 140;refine HPA.out.mono ?_;rintro e' w3 ⟨rfl,hb3⟩;have HB3:=lH hb3;have HO3:=lH (HO.out.call hb3);have fz3:=ao.froz HL.out HO3.out (k*2);have fz4:=ao.froz HL.out HO3.out (k*2+1);have hw3:w1.heap.size<w3.heap.size:=(HO3.out.lt _ rfl).2;obtain⟨z1,z2,y1,y2⟩:=ao.at HL.out HO3.out k hlt;clear hb3)
      go_roundw
      case rel=>
       have hL:=HL.out;refine⟨k+1,L.set k (f1,f2),by omega,by go_num,rfl,by rw[List.length_set];exact hL,?_,?_,?_⟩
       ·exact ao.set hL HO3.out k (by omega) (f1,f2)
       ·intro j hj hjk
        by_cases e:j=k
        ·subst e
         rw[List.getElem?_set_self (by omega),<-HSO.out,HF.out];exact⟨rfl,rfl⟩
        ·rw[List.getElem?_set_ne (Ne.symm e)]
         exact HP.out j hj (by omega)
       ·exact((HB.out.trans (HB3.out.mono (Nat.le_of_lt hwr))).setCell (nR _) _).setCell (nR _) _
      case measure=>simp[intOf];omega
     ·have hne:(f3 != 0)=true:=by simpa using h3
      have hA2:bq fold l=([],f3):=by
       rw[HA.out,oV out k HKO.out (fun j hj hjk=>(HP.out j hj hjk).2) (by rw[<-HSO.out,HF.out];exact h3),<-HSO.out,HF.out]
      have HA2:=lH hA2;clear hA2 h3;go_wp2_with (go_at_call 140;refine HPA.out.mono ?_;rintro e' w3 ⟨rfl,hb3⟩;have HB3:=lH hb3;have HO3:=lH (HO.out.call hb3);have fz3:=ao.froz HL.out HO3.out (k*2);have fz4:=ao.froz HL.out HO3.out (k*2+1);have hw3:w1.heap.size<w3.heap.size:=(HO3.out.lt _ rfl).2;obtain⟨z1,z2,y1,y2⟩:=ao.at HL.out HO3.out k hlt;clear hb3)
      go_ret2
      refine⟨.slice none 0 0,?_,?_,?_⟩
      ·rw[HA2.out];rfl
      ·rw[HA2.out];exact ao.start _ _
      ·exact HB1.out.trans ((((HB.out.trans (HB3.out.mono (Nat.le_of_lt hwr))).setCell (nR _) _).setCell (nR _) _).mono HB1.out.size)
    ·have hk1:decide ((k:Int)<(n:Int))=false:=dF (by omega)
     have hA2:bq fold l=(L,0):=by
      rw[HA.out,r8 out (fun j hj=>(HP.out j hj (by have:=HN.out;omega)).2)];refine Prod.ext (List.ext_getElem? fun j=>?_) rfl;show (out.map fun s=>(aN s).1)[j]? = L[j]?;by_cases hj:j<out.length
      ·rw[(HP.out j hj (by have:=HN.out;omega)).1,Gk,EM hj]
       rfl
      ·rw[FO (by rw[F9];omega),FO (by have:=HN.out;have:=HL.out;omega)]
     have HA2:=lH hA2;clear hA2;go_wp2_with fail
     go_ret2
     refine⟨.slice (some ⟨w1.heap.size,0,none⟩) n n,?_,?_,HB1.out.trans (HB.out.mono HB1.out.size)⟩
     ·rw[HA2.out];rfl
     ·rw[HA2.out];exact HO.out.lower HB1.out.size
end Go.Proofs.YthjbodpeckebiaaGreatDoor
-- FieldAllR
namespace Go.Proofs.YthjbodpeckebiaaGreatDoor
open Go.RowKit
theorem ao.empty (w:World):ao (w.alloc (.cells #[] 95)) w.heap.size (.slice (some ⟨w.heap.size,0,none⟩) 0 0) []:=World.ownsRow_lit w #[] 0 (nR _) (by decide) rfl
theorem mS {ops:Array Oper} {rest:List Oper} {o:Oper} {a:Act} {Q:Exit->Act->World->Prop} (hgd:o.guard=none) (s x:Operand)
 (ho:o.op=.call { callee:=.builtin .append,args:=#[s,x],argTypes:=#[42,42] }) {w:World} {B:Nat} {v:Value} {l:List Fd} (hs:a.eval s=v) (hown:ao w B v l) (y1 y2:ByteArray)
 (H:Nat) (hH:w.heap.size=H) (hx:a.eval x=.slice (some ⟨H,0,none⟩) 1 1) (hl:l.length<=1000000) (hB:B<=w.heap.size)
 (h:∀p c w1,ao w1 B (.slice p (l.length+1) c) (l++[(y1,y2)])->(w.alloc (.cells #[.string y1,.string y2] 95)).grownBy w1 v.ownBlock->Below B w w1->wpList Tryz.prog ops Q rest (a.put o.dst (.slice p (l.length+1) c)) w1):
 wpList Tryz.prog ops Q (o :: rest) a (w.alloc (.cells #[.string y1,.string y2] 95)):=by
 subst hH;obtain⟨i0,hi,hz0,hz1,hz2⟩:=info_parts jX;have hown':World.ownsRow (w.alloc (.cells #[.string y1,.string y2] 95)) B 95 2 v l.length (di l):=World.ownsRow.alloc hown _;have hlo:=hown'.lt;refine wpList_append_own _ hgd s x 42 ho B 95 i0 _ 2 32 Tryz.underlying42 hi hz0 hz1 hz2 rfl (by decide) v l.length (di l) hs hown' ⟨w.heap.size,0,none⟩ 1 1 [.string y1,.string y2] hx rfl ?c1 ?c2 ?c3 ?c4 ?c5 ?_;case c1=>exact World.news_of_block (cs:=#[.string y1,.string y2]) (t:=95) (fr:=(0,0)) (heap_alloc_new w _)
 case c2=>simp[Value.oneCell']
 case c3=>unfold maxLen;omega
 case c4=>omega
 case c5=>simp;omega
 intro v' w1 hown1 hg _;obtain⟨p',c',rfl⟩:=aC hown1;refine h p' c' w1 ?_ hg (((EK _ _).alloc hB _).grown hg (by simp;omega) (fun j hj=>by have:=(hlo j hj).1;omega));show w1.ownsRow B 95 2 _ (l++[(y1,y2)]).length (di (l++[(y1,y2)]));rw[EY,mP];exact hown1
theorem lG (fold:Int) (v:Value) (l:List ByteArray) (w:World) (h:cQ w v l) (hn:l.length<=500000) (ht:dX l<=500000):
 Calls Tryz.prog 100 #[.int .i64 fold,v] w fun e w'=>∃v',e=.returned (.tuple #[v',.int .i64 (bq fold l).2])/\ao w' w.heap.size v' (bq fold l).1/\Below w.heap.size w w':=by
 have HU:=lH (sV fold v l w h hn ht);cases hu:cY fold l with
 | none=>
   have hA:bq fold l=([],3):=by unfold bq;rw[hu]
   have HA:=lH hA;have HU2:=HU.out;rw[hu] at HU2;have HU2:=lH HU2;clear hA h hn ht hu HU;go_enter Tryz.func100,Tryz.ntmps100
   go_wp2_with (go_at_call 126;refine HU2.out.mono ?_;rintro e' w1 ⟨v1,rfl,hv1,hb1⟩;have HB1:=lH hb1;clear hb1;have hv1:v1=.slice none 0 0:=hv1;subst hv1)
   refine wp_loop_rounds 1 ?_;rw[rounds_succ];go_wp2_with fail
   go_ret2
   refine⟨.slice (some ⟨w1.heap.size,0,none⟩) 0 0,?_,?_,HB1.out.alloc HB1.out.size _⟩
   ·rw[HA.out];rfl
   ·rw[HA.out];exact(ao.empty w1).lower HB1.out.size
 | some out=>
   have hA:bq fold l=jD out:=by unfold bq;rw[hu]
   have HA:=lH hA;have HU2:=HU.out;rw[hu] at HU2;have HU2:=lH HU2
   have hlen:out.length<=l.length:=by
    have:=(ik fold l l.length (nR _) out (by rw[F8];exact hu)).1;exact this
   have hsz:∀x∈out,x.size<=1000000:=fun x hx=>by
    have:=kL (nR l.length) (by rw[F8];exact hu) hx;omega
   have HSZ:=lH hsz;obtain⟨n,hnn⟩:∃n,n=out.length:=⟨_,rfl⟩;have hn5:n<=500000:=by omega
   have HN:=lH hnn;clear hA h hn ht hu HU hlen hsz hnn;go_enter Tryz.func100,Tryz.ntmps100
   go_wp2_with (go_at_call 126;refine HU2.out.mono ?_;rintro e' w1 ⟨v1,rfl,hv1,hb1⟩;have HB1:=lH hb1;have HO1:=lH (show ap w1 w.heap.size v1 out from hv1);clear hb1 hv1;obtain⟨p1,c1,hsh,hcell⟩:=HO1.out.strs;rw[<-HN.out] at hsh;subst hsh;have HCE:=lH hcell;clear hcell)
   have HO2:=lH (ao.empty w1);have HB2:=lH ((EK w1.heap.size w1).alloc (nR _) (.cells #[] 95));go_loopw [8,9] (fun u8 u9 wr=>∃(k:Nat) (L:List Fd),k<=n/\u9=.int .i64 k/\L.length=k/\ao wr w1.heap.size u8 L/\(∀j (hj:j<out.length),j<k->L[j]? = some (aN out[j]).1/\(aN out[j]).2=0)/\Below w1.heap.size w1 wr) (fun _ u9 _=>n - (intOf u9).toNat)
   case atStart=>exact⟨0,[],EN _,rfl,rfl,HO2.out,fun j _ hj=>absurd hj (FS _),HB2.out⟩
   case round=>
    obtain⟨k,L,hk,rfl,hL,hown,hpre,hb⟩:=hrel;have HO:=lH hown;have HP:=lH hpre;have HB:=lH hb;have HL:=lH hL;clear hown hpre hb hL;by_cases hlt:k<n
    ·have hk1:decide ((k:Int)<(n:Int))=true:=dT (by omega)
     have hko:k<out.length:=by have:=HN.out;omega
     obtain⟨b,off,hp,h1⟩:=HCE.out k hko;subst hp;have h2:=(bL HB.out b _ (ET _ _ h1)).trans h1;obtain⟨s,hs⟩:∃s,s=out[k]:=⟨_,rfl⟩;rw[<-hs] at h2;have hss:s.size<=1000000:=HSZ.out s (by rw[hs];exact FT hko);have HPA:=lH (tN s hss wr);have HSO:=lH hs;have HKO:=lH hko;obtain⟨f,hf⟩:∃f,aN s=f:=⟨_,rfl⟩;obtain⟨⟨f1,f2⟩,f3⟩:=f;rw[hf] at HPA;have HF:=lH hf;have hwr:=HB.out.size;clear hs hss hf h1;by_cases h3:f3=0
     ·subst h3
      go_wp2_with (first|(go_at_call 127;refine HPA.out.mono ?_;rintro e' w3 ⟨rfl,hb3⟩;have HB3:=lH hb3;have HO3:=lH (ao.alloc (HO.out.call hb3) (.cells #[.string f1,.string f2] 95));have hw3:=hb3.size;clear hb3)|(at_builtin;refine mS rfl _ _ rfl rfl HO3.out f1 f2 _ (by simp) rfl (by have:=HL.out;omega) (by simp;omega) ?_))
      intro p4 c4 w4 hown4 _ hb4;have HO4:=lH hown4;have HB4:=lH hb4;clear hown4 hb4;go_wp2_with fail
      go_roundw
      case rel=>
       have hL:=HL.out;refine⟨k+1,L++[(f1,f2)],by omega,by go_num,by rw[EY,hL];rfl,HO4.out,?_,?_⟩
       ·intro j hj hjk
        by_cases e:j=k
        ·subst e
         rw[List.getElem?_append_right (by omega),hL,Nat.sub_self,<-HSO.out,HF.out];exact⟨rfl,rfl⟩
        ·rw[List.getElem?_append_left (by omega)]
         exact HP.out j hj (by omega)
       ·exact((HB.out.trans (HB3.out.mono hwr)).alloc (by omega) _).trans HB4.out
      case measure=>simp[intOf];omega
     ·have hne:(f3 != 0)=true:=by simpa using h3
      have hA2:bq fold l=([],f3):=by
       rw[HA.out,oV out k HKO.out (fun j hj hjk=>(HP.out j hj hjk).2) (by rw[<-HSO.out,HF.out];exact h3),<-HSO.out,HF.out]
      have HA2:=lH hA2;clear hA2 h3;go_wp2_with (go_at_call 127;refine HPA.out.mono ?_;rintro e' w3 ⟨rfl,hb3⟩;have HB3:=lH hb3;have hw3:=hb3.size;clear hb3)
      go_ret2
      refine⟨.slice none 0 0,?_,?_,?_⟩
      ·rw[HA2.out];rfl
      ·rw[HA2.out];exact ao.start _ _
      ·exact HB1.out.trans (((HB.out.trans (HB3.out.mono hwr)).alloc (by omega) _).mono HB1.out.size)
    ·have hk1:decide ((k:Int)<(n:Int))=false:=dF (by omega)
     have hA2:bq fold l=(L,0):=by
      rw[HA.out,r8 out (fun j hj=>(HP.out j hj (by have:=HN.out;omega)).2)];refine Prod.ext (List.ext_getElem? fun j=>?_) rfl;show (out.map fun s=>(aN s).1)[j]? = L[j]?;by_cases hj:j<out.length
      ·rw[(HP.out j hj (by have:=HN.out;omega)).1,Gk,EM hj]
       rfl
      ·rw[FO (by rw[F9];omega),FO (by have:=HN.out;have:=HL.out;omega)]
     have HA2:=lH hA2;clear hA2;go_wp2_with fail
     go_ret2
     refine⟨u8,?_,?_,HB1.out.trans (HB.out.mono HB1.out.size)⟩
     ·rw[HA2.out];rfl
     ·rw[HA2.out];exact HO.out.lower HB1.out.size
end Go.Proofs.YthjbodpeckebiaaGreatDoor
/- Texts packed for one claim, 24 of 48: LsSp. -/
import Derived.Test.YthjbodpeckebiaaGreatDoorRdnQ23
import Derived.Test.YthjbodpeckebiaaGreatDoorRdnQ9
import Derived.Test.YthjbodpeckebiaaGreatDoorRdnQ5
set_option maxRecDepth 100000
set_option maxHeartbeats 16000000
set_option linter.unusedSimpArgs false
set_option linter.unusedVariables false
-- LsSp
namespace Go.Proofs.YthjbodpeckebiaaGreatDoor
open Go.RowKit Go.Shelf
attribute [local go_sem] Oper.semAt_some
theorem ko {P:Nat->Prop} {w w':World} (t:aa P w w') (hP:∀i,i<w.heap.size->P i->∃cs ty fz,w.heap[i]? = some (.cells cs ty fz)):KeepsOthers w w':=
 ⟨t.size,fun k o hk ho=>by
  have hlt:k<w.heap.size:=(ua.1 hk).1;by_cases hp:P k
  ·obtain⟨cs,ty,fz,h⟩:=hP k hlt hp
   rw[hk] at h;injection h with h
   subst h;cases ho
  ·exact(t.block k hlt hp).trans hk⟩
theorem iI {w:World} {B:Nat} {v:Value} {l:List ByteArray} (h:ao w B v l):∀k,v.ownBlock=some k->B<=k/\∃cs,w.heap[k]? = some (.cells cs 9 (0,0)):=by
 intro k hk;obtain⟨_,h2⟩:=h;rcases h2 with ⟨rfl,_⟩|⟨g',cap,cur,rfl,hB,hg,_⟩
 ·cases hk
 ·have:g'=k:=by injection hk
  subst this;exact⟨hB,cur,hg⟩
def qu (B:Nat) (w:World) (k:Nat):Prop:=B<=k/\∃cs fz,w.heap[k]? = some (.cells cs 9 fz)
theorem ga {w w1:World} {B:Nat} {v:Value} {l:List ByteArray} {P:Nat->Prop} (h:ao w B v l) (t:aa P w w1) (hP:∀k,B<=k->(∃cs,w.heap[k]? = some (.cells cs 9 (0,0)))->¬P k):ao w1 B v l:=by
 have hb:=iI h;obtain⟨h1,h2⟩:=h;refine⟨h1,?_⟩;rcases h2 with h2|⟨g,cap,cur,hv,hB,hg,rest⟩
 ·exact Or.inl h2
 ·exact Or.inr ⟨g,cap,cur,hv,hB,(t.block g ((ua.1 hg).1) (hP g hB ⟨cur,hg⟩)).trans hg,rest⟩
theorem fQ {F:Fence} {n:Nat} {ops:Array Oper} {rest:List Oper} {o:Oper} {a:Act} {Q:Exit->Act->World->Prop} (hgd:o.guard=none) (s x:Operand)
 (ho:o.op=.call { callee:=.builtin .append,args:=#[s,x],argTypes:=#[22,22] }) {w:World} {B:Nat} {v:Value} {l:List ByteArray} (hs:a.eval s=v) (hown:ao w B v l) (y:ByteArray)
 (hx:a.eval x=.slice (some ⟨w.heap.size,0,none⟩) 1 1) (hl:l.length<=1000000) (hB:B<=w.heap.size)
 (h:∀p c w1,ao w1 B (.slice p (l.length+1) c) (l++[y])->aa (qu B w) w w1->wpListIn F n Tryz.prog ops Q rest (a.put o.dst (.slice p (l.length+1) c)) w1):
 wpListIn F n Tryz.prog ops Q (o :: rest) a (w.alloc (.cells #[.string y] 9)):=by
 obtain⟨i0,hi,hz0,hz1,hz2⟩:=info_parts ix;have hbk:=iI hown;refine wpListIn_append_own _ hgd s x 22 ho B 9 i0 _ 1 16 Tryz.underlying22 hi hz0 hz1 hz2 rfl (by decide) v l.length (l.map Value.string) hs (hown.alloc _) ⟨w.heap.size,0,none⟩ 1 1 [.string y] hx rfl ?c1 ?c2 ?c3 ?c4 ?c5 ?_;case c1=>exact World.news_of_block (cs:=#[.string y]) (t:=9) (fr:=(0,0)) (heap_alloc_new w _)
 case c2=>simp[Value.oneCell']
 case c3=>unfold maxLen;omega
 case c4=>omega
 case c5=>simp;omega
 intro v' w1 hown1 hg _;obtain⟨p',c',rfl⟩:=aV hown1;refine h p' c' w1 ?_ (((aa.refl _ w).alloc (.cells #[.string y] 9)).trans ⟨hg.os,hg.tape,hg.output,hg.size,fun k hk hne=>hg.block k hk (fun e=>?_)⟩)
 ·show w1.ownsRow B 9 1 _ (l++[y]).length ((l++[y]).map Value.string)
  rw[ue,uw];exact hown1
 ·obtain⟨h1,cs,h2⟩:=hbk k e.symm
  exact hne ⟨h1,cs,_,h2⟩
theorem fF (a b:List (List UInt8)):bu (a++b)=bu a++bu b:=by unfold bu;rw[uw,List.filter_append]
theorem pS (x:ByteArray):bu [x.data.toList]=if (bT x).toList.isEmpty=true then [] else [bT x]:=by
 unfold bu;show ([bT x]:List ByteArray).filter (fun e=>!e.toList.isEmpty)=_;cases h:(bT x).toList.isEmpty<;>simp[h]
theorem jY (l:List (List UInt8)):(bu l).length<=l.length:=by
 unfold bu;refine nT (List.length_filter_le _ _) ?_;rw[List.length_map];exact nR _
theorem km (s:ByteArray) (w:World):Calls Tryz.prog 186 #[.string s] w fun e w'=>e=.returned (.func (.func 222) #[] #[.pointer (some ⟨w.heap.size,0,none⟩)])/\w'=w.alloc (.cells #[.string s] 9):=by
 go_enter Tryz.func186,Tryz.ntmps186
 go_wp2_with fail
 go_ret;exact⟨rfl,rfl⟩
def SpI (w:World) (b B:Nat) (pre:List Tx) (W:World):Prop:=(∃v,ac W b #[v] 22/\ao W B v (bu (pre.map gZ)))/\Below w.heap.size w W/\B<=W.heap.size
theorem nj {w:World} {b B:Nat} (hb:b<B) (hw:w.heap.size<=B):az 222 B B (SpI w b B):=by
 rintro pre U V ⟨⟨v,hk,ho⟩,hbel,hsz⟩ t;refine⟨⟨v,hk.touch t ?_,ga ho t ?_⟩,hbel.trans (t.below (B:=w.heap.size) (fun k _ hk=>hk.elim (fun h=>nT hw h.1) (fun h=>nT hw h.1)) hbel.size),nT hsz t.size⟩
 ·rintro (⟨h,_⟩|⟨h,_⟩)<;>omega
 ·rintro k _ ⟨cs,hc⟩ (⟨_,cs',fz,h⟩|⟨_,o,h,h2⟩)
  ·rw[hc] at h
   injection h with h
   injection h with _ h _
   exact absurd h (by decide)
  ·rw[hc] at h
   injection h with h
   rw[<-h] at h2;cases h2
theorem rC (F:Fence) (N:Nat) (hw:∀f args (W:World) R M,Calls Tryz.prog f args W R->CallsIn F M Tryz.prog f args W R) (hfn:∀f,F.fn f) (hro:F.round=none) (hN:3<=N) (s:ByteArray) (hs:s.size<=1000000) (hc:(gA kG s.data.toList).closed=true) (w:World):
 CallsIn F N Tryz.prog 147 #[.string s] w fun o w'=>∃v,o=.returned (.tuple #[v,.bool true])/\ao w' w.heap.size v (bu (gU kG [] s.data.toList))/\Below w.heap.size w w':=by
 have HEN:=lH (kY s hs w);rw[hc] at HEN;have HW:=lH hw;have HFN:=lH hfn;obtain⟨R,hR⟩:∃R,R=gU kG [] s.data.toList:=⟨_,rfl⟩;have HR:=lH hR;rw[<-hR];clear hw hfn hc hR;have h1:1<=N:=by omega
 refine callsIn_of_wp_marks Tryz.func147 rfl (HFN.out _) ?_ hro;simp only[Tryz.ntmps147,List.size_toArray,t4,uT,Nat.reduceAdd,Nat.reduceSub,Array.replicate_succ,Array.replicate_zero,List.push_toArray,List.append_toArray,vm,uS];gi_wp2_with fail
 refine⟨HFN.out _,?_⟩;refine(HW.out _ _ _ _ _ HEN.out).mono ?_;rintro e1 w1 ⟨rfl,hb1⟩;have HB1:=lH hb1;clear hb1;gi_wp2_with fail
 refine⟨HFN.out _,?_⟩;refine(HW.out _ _ _ _ _ (km s _)).mono ?_;rintro e2 w2 ⟨rfl,hw2⟩;obtain⟨B,hB⟩:∃B,B=w1.heap.size+2:=⟨_,rfl⟩;have hsz:w2.heap.size=B:=by rw[hw2,hB];simp
 have K1:Hid (ac w2 w1.heap.size #[.slice none 0 0] 22):=by show ac _ _ _ _;rw[hw2];exact(ac.new _ _ _).alloc _
 have K2:Hid (ac w2 (w1.heap.size+1) #[.string s] 9):=by show ac _ _ _ _;rw[hw2];exact ac.new' (by simp)
 have HB2:Hid (Below w.heap.size w w2):=by show Below _ _ _;rw[hw2];exact(HB1.out.alloc HB1.out.size _).alloc (by have:=HB1.out.size;simp;omega) _
 have HSZ:=lH hsz;have HBB:=lH hB;have HWB:Hid (w.heap.size<=B):=by show _<=_;have:=HB1.out.size;omega
 clear hw2 hsz hB;simp only[World.size_alloc];gi_wp2_with fail
 refine bz hro h1 (gf:=222) (lb:=#[.pointer (some ⟨w1.heap.size+1,0,none⟩)]) rfl (HFN.out _) (enters_of Tryz.func222 (by kernel_rfl) rfl)
  (kX F (N - 1) HW.out HFN.out hro (by omega) B (w1.heap.size+1) B (w2.heap.size+2) (fun k=>k=w1.heap.size) s hs w2 (Nat.le_of_eq HSZ.out.symm) (by rw[HBB.out];omega) (fun h=>by omega) (fun k hk=>by rw[hk,HSZ.out,HBB.out];omega) K2.out)
  eF.trans (eF.put (Nat.lt_succ_self _)) (tU _ _) (fun _=>rfl)
  (SpI w w1.heap.size B) (fun _ _ _=>False) (by rw[HSZ.out];exact nj (by rw[HBB.out];omega) HWB.out) (fun _ _ _ _ h _=>h)
  ⟨⟨_,K1.out,ao.start _ _⟩,HB2.out,Nat.le_of_eq HSZ.out.symm⟩
  (fun x=>{ tmps:=#[.string s,undef,.slice none 0 0,.bool false,.pointer (some ⟨w1.heap.size,0,none⟩),.string x.1,.string s,.bool true,.bool false,.string s,.func (.func 222) #[] #[.pointer (some ⟨w1.heap.size+1,0,none⟩)],.string x.1,undef,undef,undef,undef,undef,undef,undef,undef,undef],defers:=[] }) ?assign ?body ?done ?stop
 case assign=>
  intro y x W K hK;gi_wp2
  exact hK
 case body=>
  rintro y pre ⟨x,hx⟩ W ⟨⟨v,hk,ho⟩,hbel,hszW⟩ hlen;dsimp only
  obtain⟨T,hT⟩:∃T,T=bT x:=⟨_,rfl⟩;have HTR:Hid (Calls Tryz.prog 172 #[.string x] W fun e w'=>e=.returned (.string T)/\W=w'):=by rw[hT];exact fL x (by omega) W
  have hso:=pS x;rw[<-hT] at hso;have hmap:(pre++[(⟨x,hx⟩:Tx)]).map gZ=pre.map gZ++[x.data.toList]:=by rw[uw];rfl
  have HK:=lH hk;have HO:=lH ho;have HBL:=lH hbel
  have HL:Hid ((bu (pre.map gZ)).length<=1000000):=by
   show _<=_;have:=jY (pre.map gZ);rw[List.length_map] at this;omega
  have c0:=hk.cell 0;simp at c0;have HMAP:=lH hmap;have HBW:=lH hszW;cases he:T.toList.isEmpty with
  | true=>
    have HSO:Hid (bu [x.data.toList]=[]):=by show _=_;rw[hso,if_pos he]
    clear hk ho hbel hT hso hmap hlen hszW;gi_wp2_with fail
    refine⟨HFN.out _,fun _=>by omega,?_⟩;refine(CallsIn.inRound y (HW.out _ _ _ _ _ HTR.out)).mono ?_;rintro e3 W1 ⟨rfl,hW⟩;subst hW;gi_wp2_with fail
    refine⟨bA.refl _ _,aa.refl _ _,⟨v,HK.out,?_⟩,HBL.out,HBW.out⟩;rw[HMAP.out,fF,HSO.out,List.append_nil];exact HO.out
  | false=>
    have HSO:Hid (bu [x.data.toList]=[T]):=by show _=_;rw[hso,if_neg (by rw[he];decide)]
    clear hk ho hbel hT hso hmap hlen hszW;gi_wp2_with fail
    refine⟨HFN.out _,fun _=>by omega,?_⟩;refine(CallsIn.inRound y (HW.out _ _ _ _ _ HTR.out)).mono ?_;rintro e3 W1 ⟨rfl,hW⟩;subst hW;gi_wp2_with (gi_at_builtin;refine fQ rfl _ _ rfl rfl HO.out T rfl HL.out HBW.out ?_;intro p c w3 ho3 ht3;have HO3:=lH ho3;have HT3:=lH ht3;have HK3:=lH (HK.out.touch ht3 (fun h=>by have h1:=h.1;rw[HBB.out] at h1;omega));have c3:=HK3.out.cell 0;simp at c3;have f3:=HK3.out.froz 0;clear ho3 ht3)
    have t:aa (fun k=>k=w1.heap.size\/qu B W k) W (w3.setCell ⟨w1.heap.size,0,none⟩ (.slice p ((bu (pre.map gZ)).length+1) c)):=aa.setCell (P:=fun k=>k=w1.heap.size\/qu B W k) (HT3.out.mono (fun k _ h=>Or.inr h)) (Or.inl rfl) _;refine⟨bA.of (ko t ?_) _,t.mono ?_,⟨.slice p ((bu (pre.map gZ)).length+1) c,?_,?_⟩,HBL.out.trans (t.below (B:=w.heap.size) ?_ HBL.out.size),nT HBW.out t.size⟩
    ·rintro i _ (e|⟨_,cs,fz,h⟩)
     ·subst e;exact⟨_,_,_,HK.out⟩
     ·exact⟨cs,_,fz,h⟩
    ·rintro k _ (e|h)
     ·exact Or.inl ⟨e,_,_,_,by rw[e];exact HK.out⟩
     ·exact Or.inr (Or.inl h)
    ·have:=HK3.out.set 0 (.slice p ((bu (pre.map gZ)).length+1) c)
     simpa using this
    ·rw[HMAP.out,fF,HSO.out]
     have hl:(bu (pre.map gZ)++[T]).length=(bu (pre.map gZ)).length+1:=by simp
     exact ga HO3.out (aa.setCell (P:=fun k=>k=w1.heap.size) (aa.refl _ _) rfl _) (fun k hk _ e=>by rw[HBB.out] at hk;omega)
    ·rintro k _ (e|h)
     ·rw[e];exact HB1.out.size
     ·exact nT HWB.out h.1
 case done=>
  rintro D ys W hD hS ⟨⟨v,hk,ho⟩,hbel,_⟩ hKd;have HK:=lH hk;have HO:=lH ho;have HBL:=lH hbel;have HKD:=lH hKd;have c0:=hk.cell 0;simp at c0;have HD:=lH hD;have HS:=lH hS;clear hk ho hbel hKd hD hS;gi_wp2_with fail
  refine⟨by simp,.inl ⟨_,_,rfl,run_takeDeferred HKD.out,?_⟩⟩;refine⟨.tuple #[v,.bool true],by simp[results,Tryz.results147,go_sem],v,rfl,?_,?_⟩
  ·rw[HR.out,<-HS.out]
   exact(ga HO.out (bq W D _) (fun k _ hc e=>by obtain⟨cs,hc⟩:=hc;subst e;have h:=HKD.out;rw[hc] at h;cases h)).lower HWB.out
  ·exact HBL.out.trans (belowK_b (w:=w) (nR _) W D _ _ (by have:=HWB.out;have:=HSZ.out;have:=HD.out;omega) HKD.out rfl rfl)
 case stop=>
  rintro D c pre W _ _ h _;exact h.elim
theorem pU (s:ByteArray) (hs:s.size<=1000000) (w:World):
 Calls Tryz.prog 147 #[.string s] w fun e w'=>∃v,e=.returned (.tuple #[v,.bool (cx s).isSome])/\ao w' w.heap.size v ((cx s).getD [])/\Below w.heap.size w w':=by
 unfold cx;cases hc:(gA kG s.data.toList).closed with
 | true=>
   rw[if_pos rfl];exact callsIn_wide.1 (rC Fence.wide 3 (fun _ _ _ _ _ h=>callsIn_wide.2 h) (fun _=>trivial) rfl (by decide) s hs hc w)
 | false=>
   rw[if_neg (by decide)];have HEN:=lH (kY s hs w);rw[hc] at HEN;clear hc;go_enter Tryz.func147,Tryz.ntmps147
   go_wp2_with (go_at_call 185;refine HEN.out.mono ?_;rintro e1 w1 ⟨rfl,hb⟩;have HB:=lH hb;clear hb)
   go_ret2
   exact⟨_,rfl,ao.start _ _,HB.out⟩
end Go.Proofs.YthjbodpeckebiaaGreatDoor
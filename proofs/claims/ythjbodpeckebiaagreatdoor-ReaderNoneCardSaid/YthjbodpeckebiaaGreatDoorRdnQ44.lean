/- Texts packed for one claim, 44 of 48: Of. -/
import Derived.Test.YthjbodpeckebiaaGreatDoorRdnQ43
import Derived.Test.YthjbodpeckebiaaGreatDoorRdnQ26
set_option maxRecDepth 100000
set_option maxHeartbeats 16000000
set_option linter.unusedSimpArgs false
set_option linter.unusedVariables false
-- Of
namespace Go.Proofs.YthjbodpeckebiaaGreatDoor
open Go.RowKit Go.Shelf
attribute [local go_sem] Oper.semAt_some
theorem pu (p:Option Addr) (n c:Nat) (w:World):Calls Tryz.prog 149 #[.slice p n c] w fun e w'=>e=.returned (.func (.func 187) #[] #[.pointer (some ⟨w.heap.size,0,none⟩)])/\w'=w.alloc (.cells #[.slice p n c] 22):=by
 go_enter Tryz.func149,Tryz.ntmps149
 go_wp2_with fail
 go_ret;exact⟨rfl,rfl⟩
theorem jM:∀(l:List ByteArray) (f:Int) (p:ByteArray),cS f (l++[p])=(cS f l).bind fun g=>cS g [p]
 | [],f,p=>rfl
 | q :: l,f,p=>by
   rw[uS,cS,cS];split
   ·rfl
   ·exact jM l _ p
theorem jL:∀(l r:List ByteArray) (f:Int),cS f l=none->cS f (l++r)=none
 | [],r,f,h=>by cases h
 | q :: l,r,f,h=>by
   rw[cS] at h;rw[uS,cS];split
   ·rfl
   ·rename_i h2
    rw[if_neg h2] at h;exact jL l r _ h
structure qq (w:World) (b n:Nat) (f r:Int) (V:World):Prop where
 n0:ac V b #[.int .i64 0] 3
 h0:ac V (b+1) #[.bool false] 4
 e0:ac V (b+2) #[.int .i64 r] 29
 f0:ac V (b+3) #[.int .i64 f] 3
 lo:n<=w.heap.size
 be:Below n w V
theorem dH {w:World} {g:Nat} {x:Value} {ty:TypeId} (h:ac w g #[x] ty) (y:Value):ac (w.setCell ⟨g,0,none⟩ y) g #[y] ty:=by
 have:=h.set 0 y;simpa using this
theorem cO {w:World} {b n:Nat} {f r:Int} {V:World} (h:qq w b n f r V) {k:Nat} (hk:b<=k/\k<b+4):∃cs ty fz,V.heap[k]? = some (.cells cs ty fz):=by
 rcases (by omega:k=b\/k=b+1\/k=b+2\/k=b+3) with rfl|rfl|rfl|rfl
 ·exact⟨_,_,_,h.n0⟩
 ·exact⟨_,_,_,h.h0⟩
 ·exact⟨_,_,_,h.e0⟩
 ·exact⟨_,_,_,h.f0⟩
def OfI (w:World) (b n:Nat) (pre:List Tx) (V:World):Prop:=∃f,cS (-1) (pre.map (·.1))=some f/\qq w b n f 0 V
def OfX (w:World) (b n:Nat) (c:Code) (pre:List Tx) (V:World):Prop:=c=.ret/\cS (-1) (pre.map (·.1))=none/\∃f,qq w b n f 14 V
theorem jS {w:World} {b n B C:Nat} {f r:Int} {U V:World} (h:qq w b n f r U) (t:aa (qp 9 B C U) U V) (hB:n<=B) (hC:n<=C):qq w b n f r V:=
 ⟨df t h.n0 (Or.inl (by decide)),df t h.h0 (Or.inl (by decide)),df t h.e0 (Or.inl (by decide)),df t h.f0 (Or.inl (by decide)),h.lo,h.be.trans (t.below (B:=n) (fun k _ hk=>hk.elim (fun h=>nT hB h.1) (fun h=>nT hC h.1)) (nT h.lo h.be.size))⟩
theorem mQ {w:World} {b n B C:Nat} (hB:n<=B) (hC:n<=C):az 9 B C (OfI w b n):=by
 rintro pre U V ⟨f,h1,h2⟩ t;exact⟨f,h1,jS h2 t hB hC⟩
theorem mR {w:World} {b n B C:Nat} (hB:n<=B) (hC:n<=C) (c:Code):az 9 B C (OfX w b n c):=by
 rintro pre U V ⟨h0,h1,f,h2⟩ t;exact⟨h0,h1,f,jS h2 t hB hC⟩
theorem gz {fn:Func} {t p u:Tmp} {t1 t2 t3:TypeId} (h:fn.results=#[.cell t t1,.cell p t2,.cell u t3]) (tmps:Array Value) (P:Program) (w:World) (g1 g2 g3:Nat) (x1 x2 x3:Value) (hp1:tmps.getD t undef=.pointer (some ⟨g1,0,none⟩)) (hp2:tmps.getD p undef=.pointer (some ⟨g2,0,none⟩)) (hp3:tmps.getD u undef=.pointer (some ⟨g3,0,none⟩))
 (h1:w.cell? ⟨g1,0,none⟩=some x1) (h2:w.cell? ⟨g2,0,none⟩=some x2) (h3:w.cell? ⟨g3,0,none⟩=some x3) (a1:∀W,(isAgg t1).run P W=.ok false W) (a2:∀W,(isAgg t2).run P W=.ok false W) (a3:∀W,(isAgg t3).run P W=.ok false W):
 (results fn tmps).run P w=.ok (.tuple #[x1,x2,x3]) w:=by
 have l1:(loadVar t1 ⟨g1,0,none⟩).run P w=.ok x1 w:=by unfold loadVar;simp[Sem.run_bind,a1,Result.andThen,run_load,h1]
 have l2:(loadVar t2 ⟨g2,0,none⟩).run P w=.ok x2 w:=by unfold loadVar;simp[Sem.run_bind,a2,Result.andThen,run_load,h2]
 have l3:(loadVar t3 ⟨g3,0,none⟩).run P w=.ok x3 w:=by unfold loadVar;simp[Sem.run_bind,a3,Result.andThen,run_load,h3]
 simp only[Array.getD_eq_getD_getElem?] at hp1 hp2 hp3;simp only[results,h];simp[Sem.run_bind,Result.andThen,hp1,hp2,hp3,asAddr,l1,l2,l3,Sem.run_pure]
theorem of_in (F:Fence) (N:Nat) (hw:∀f args (W:World) R M,Calls Tryz.prog f args W R->CallsIn F M Tryz.prog f args W R) (hfn:∀f,F.fn f) (hro:F.round=none) (hdp:F.depth=none) (hN:9<=N) (fs:List Fd) (f:Value) (w:World) (h:bL w f fs) (hl:fs.length<=1000000) (hs:∀g∈fs,g.1.size<=1000000) (hs2:∀g∈fs,g.2.size<=1000000):
 CallsIn F N Tryz.prog 113 #[f] w fun e w'=>e=.returned (.tuple #[.int .i64 ((dS fs).elim 0 (max · 0)),.bool ((dS fs).elim false (fun r=>decide (0<=r))),.int .i64 ((dS fs).elim 14 (fun _=>0))])/\Below w.heap.size w w':=by
 have HW:=lH hw;have HFN:=lH hfn;have h1:1<=N:=by omega
 have a1:∀W,(isAgg 3).run Tryz.prog W=.ok false W:=fun W=>by kernel_rfl
 have a2:∀W,(isAgg 4).run Tryz.prog W=.ok false W:=fun W=>by kernel_rfl
 have a3:∀W,(isAgg 29).run Tryz.prog W=.ok false W:=fun W=>by kernel_rfl
 have HA:=lH (And.intro a1 (And.intro a2 a3));obtain⟨w1,hw1⟩:∃w1,w1=(((w.alloc (.cells #[.int .i64 0] 3)).alloc (.cells #[.bool false] 4)).alloc (.cells #[.int .i64 0] 29)).alloc (.cells #[.int .i64 (-1)] 3):=⟨_,rfl⟩;have hb1:Below w.heap.size w w1:=by rw[hw1];exact((((tU _ _).alloc (nR _) _).alloc (by simp) _).alloc (by simp;omega) _).alloc (by simp;omega) _
 have hz1:w1.heap.size=w.heap.size+4:=by rw[hw1];simp
 have k0:ac w1 w.heap.size #[.int .i64 0] 3:=by rw[hw1];exact(((ac.new _ _ _).alloc _).alloc _).alloc _
 have k1:ac w1 (w.heap.size+1) #[.bool false] 4:=by rw[hw1];exact((ac.new' (by simp)).alloc _).alloc _
 have k2:ac w1 (w.heap.size+2) #[.int .i64 0] 29:=by rw[hw1];exact(ac.new' (by simp)).alloc _
 have k3:ac w1 (w.heap.size+3) #[.int .i64 (-1)] 3:=by rw[hw1];exact ac.new' (by simp)
 have HAL:=lH (fu fs f qg w1 (h.below hb1) hl hs (by decide))
 have hvs:∀s∈aJ fs qg,s.size<=1000000:=fun s hs'=>by
  unfold aJ at hs';obtain⟨q,hq,rfl⟩:=List.mem_map.1 hs';exact hs2 q (List.mem_filter.1 hq).1
 have hvl:=ia fs qg;obtain⟨vals,hv⟩:∃v,v=aJ fs qg:=⟨_,rfl⟩;have hlp:dS fs=cS (-1) (vals.flatMap bf):=by unfold dS;rw[hv]
 rw[<-hv] at HAL hvs hvl;obtain⟨L,hL⟩:∃L,L=dS fs:=⟨_,rfl⟩;rw[<-hL] at hlp ⊢;have HLP:=lH hlp;have HVS:=lH hvs;have HVL:Hid (vals.length<=1000000):=by show _<=_;omega
 have HB1:=lH hb1;have HZ1:=lH hz1;have HK0:=lH k0;have HK1:=lH k1;have HK2:=lH k2;have HK3:=lH k3;unfold qg at HAL;clear hw hfn h hl hs hs2 a1 a2 a3 hb1 hz1 k0 k1 k2 k3 hvs hvl hv hlp hL;refine callsIn_of_wp_marks Tryz.func113 rfl (HFN.out _) ?_ hro;simp only[Tryz.ntmps113,List.size_toArray,t4,uT,Nat.reduceAdd,Nat.reduceSub,Array.replicate_succ,Array.replicate_zero,List.push_toArray,List.append_toArray,vm,uS];gi_wp2_with fail
 refine⟨HFN.out _,?_⟩;rw[<-hw1];refine(HW.out _ _ _ _ _ HAL.out).mono ?_;rintro e2 w2 ⟨v2,rfl,ho2,hb2⟩;obtain⟨p2,c2,rfl⟩:=ho2.shape;have HO:=lH ho2;have HB2:=lH hb2;clear ho2 hb2 hw1 HAL;gi_wp2_with fail
 refine⟨HFN.out _,?_⟩;refine(HW.out _ _ _ _ _ (pu _ _ _ _)).mono ?_;rintro e3 w3 ⟨rfl,hw3⟩;have hsb:Below w2.heap.size w2 w3:=by rw[hw3];exact(tU _ _).alloc (nR _) _
 have KV:Hid (ac w3 w2.heap.size #[.slice p2 vals.length c2] 22):=by show ac _ _ _ _;rw[hw3];exact ac.new _ _ _
 have HZ3:Hid (w3.heap.size=w2.heap.size+1):=by show _=_;rw[hw3];simp
 have HO3:=lH (HO.out.call hsb);have hb13:Below w1.heap.size w1 w3:=HB2.out.trans (hsb.mono HB2.out.size);have HZ2:Hid (w.heap.size+4<=w2.heap.size):=by show _<=_;rw[<-HZ1.out];exact HB2.out.size
 have HI0:Hid (OfI w w.heap.size w.heap.size [] w3):=⟨-1,rfl,HK0.out.call hb13,HK1.out.call hb13,HK2.out.call hb13,HK3.out.call hb13,nR _,HB1.out.trans (hb13.mono HB1.out.size)⟩
 have HRB:Hid (∀k,(Value.slice p2 vals.length c2).ownBlock=some k->k<w3.heap.size/\¬(w.heap.size<=k/\k<w.heap.size+4)):=by
  show ∀k,_->_;intro k hk;obtain⟨h1,cs,h2⟩:=iI HO3.out k hk;have h3:=(ua.1 h2).1;have h4:=HZ1.out;exact⟨h3,by omega⟩
 clear hw3 hsb hb13;gi_wp2_with fail
 refine bz hro h1 (gf:=187) (lb:=#[.pointer (some ⟨w2.heap.size,0,none⟩)]) rfl (HFN.out _) (enters_of Tryz.func187 (by kernel_rfl) rfl)
  (lP F (N - 1) HW.out HFN.out hro hdp (by omega) w3.heap.size w2.heap.size w1.heap.size 0 (fun k=>w.heap.size<=k/\k<w.heap.size+4) (.slice p2 vals.length c2) vals HVS.out HVL.out w3 HO3.out (nR _) HRB.out (fun k hk=>by have h1:=HZ2.out;have h2:=HZ3.out;omega) KV.out)
  eF.trans (eF.put (Nat.lt_succ_self _)) (tU _ _) (fun _=>rfl)
  (OfI w w.heap.size w.heap.size) (OfX w w.heap.size w.heap.size) (mQ (by have h1:=HZ2.out;have h2:=HZ3.out;omega) (by have h1:=HZ2.out;have h2:=HZ3.out;omega)) (mR (by have h1:=HZ2.out;have h2:=HZ3.out;omega) (by have h1:=HZ2.out;have h2:=HZ3.out;omega)) HI0.out
  (fun x=>{ tmps:=#[f,undef,.pointer (some ⟨w.heap.size,0,none⟩),.pointer (some ⟨w.heap.size+1,0,none⟩),.pointer (some ⟨w.heap.size+2,0,none⟩),.pointer (some ⟨w.heap.size+3,0,none⟩),.string x.1,undef,undef,f,.slice p2 vals.length c2,.func (.func 187) #[] #[.pointer (some ⟨w2.heap.size,0,none⟩)],.string x.1,undef,undef,undef,undef,undef,undef,undef,undef,undef,undef,undef,undef,undef,undef,undef,undef,undef,undef,undef,undef,undef],defers:=[] }) ?assign ?body ?done ?stop
 case assign=>
  intro y x W K hK;gi_wp2
  exact hK
 case body=>
  rintro l pre ⟨x,hx⟩ U ⟨f0,hlf,hat⟩ hlen;dsimp only
  obtain⟨⟨nn,ee⟩,hnr⟩:∃p:Int×Int,al x.data.toList 10 2147483647=p:=⟨_,rfl⟩;have HDC:=lH (kk x 2147483647 (by omega) (by decide) (by decide) nn ee hnr U)
  have hlf2:cS (-1) ((pre++[(⟨x,hx⟩:Tx)]).map (·.1))=if ee≠0\/(0<=f0/\nn≠f0) then none else some nn:=by
   rw[uw];show cS (-1) (pre.map (·.1)++[x])=_;rw[jM,hlf];show cS f0 [x]=_;unfold cS;rw[hnr];rfl
  have HLF:=lH hlf2;have HAT:=lH hat;clear hnr hlf hlf2 hat hlen;by_cases hbad:ee≠0\/(0<=f0/\nn≠f0)
  ·have HBAD:Hid (cS (-1) ((pre++[(⟨x,hx⟩:Tx)]).map (·.1))=none):=by show _=_;rw[HLF.out,if_pos hbad]
   have hcs:(ee != 0)=true\/((ee != 0)=false/\decide (0<=f0)=true/\(nn != f0)=true):=by
    by_cases h:ee=0
    ·right
     rcases hbad with h2|⟨h2,h3⟩
     ·exact absurd h h2
     ·exact⟨by rw[h];rfl,dT h2,by rw[uI];exact h3⟩
    ·left
     rw[uI];exact h
   clear hbad;rcases hcs with q1|⟨q1,q2,q3⟩
   all_goals
    gi_wp2_with fail
    refine⟨HFN.out _,?_⟩;refine(CallsIn.inRound l (HW.out _ _ _ _ _ HDC.out)).mono ?_;rintro e4 w4 ⟨rfl,hb4⟩;have HB4:=lH hb4;have N4:=lH (HAT.out.n0.call hb4);have H4:=lH (HAT.out.h0.call hb4);have E4:=lH (HAT.out.e0.call hb4);have F4:=lH (HAT.out.f0.call hb4);have n0:=N4.out.cell 0;have h0:=H4.out.cell 0;have e0:=E4.out.cell 0;have f1:=F4.out.cell 0;have n1:=N4.out.froz 0;have h1:=H4.out.froz 0;have e1:=E4.out.froz 0;have x1:w.heap.size≠w.heap.size+1:=by omega
    have x2:w.heap.size+1≠w.heap.size+2:=by omega
    have x3:w.heap.size≠w.heap.size+2:=by omega
    simp at n0 h0 e0 f1;clear hb4;gi_wp2_with fail
    have t:aa (fun k=>w.heap.size<=k/\k<w.heap.size+4) U (((w4.setCell ⟨w.heap.size,0,none⟩ (.int .i64 0)).setCell ⟨w.heap.size+1,0,none⟩ (.bool false)).setCell ⟨w.heap.size+2,0,none⟩ (.int .i64 14)):=
     aa.setCell (P:=fun k=>w.heap.size<=k/\k<w.heap.size+4) (aa.setCell (P:=fun k=>w.heap.size<=k/\k<w.heap.size+4) (aa.setCell (P:=fun k=>w.heap.size<=k/\k<w.heap.size+4) (aa.of_below HB4.out) (show w.heap.size<=w.heap.size/\w.heap.size<w.heap.size+4 by omega) _) (show w.heap.size<=w.heap.size+1/\w.heap.size+1<w.heap.size+4 by omega) _) (show w.heap.size<=w.heap.size+2/\w.heap.size+2<w.heap.size+4 by omega) _
    refine⟨bA.of (ko t (fun i _ hi=>cO HAT.out hi)) _,t.mono (fun k _ hk=>Or.inl ⟨hk,cO HAT.out hk⟩),rfl,HBAD.out,f0,⟨?_,?_,?_,?_,HAT.out.lo,HAT.out.be.trans (t.below (B:=w.heap.size) (fun k _ hk=>hk.1) HAT.out.be.size)⟩⟩
    ·exact((dH N4.out _).far (p:=⟨w.heap.size+1,0,none⟩) x1 _).far (p:=⟨w.heap.size+2,0,none⟩) x3 _
    ·exact(dH (H4.out.far (p:=⟨w.heap.size,0,none⟩) x1.symm _) _).far (p:=⟨w.heap.size+2,0,none⟩) x2 _
    ·exact dH ((E4.out.far (p:=⟨w.heap.size,0,none⟩) x3.symm _).far (p:=⟨w.heap.size+1,0,none⟩) x2.symm _) _
    ·exact((F4.out.far (p:=⟨w.heap.size,0,none⟩) (show w.heap.size+3≠w.heap.size by omega) _).far (p:=⟨w.heap.size+1,0,none⟩) (show w.heap.size+3≠w.heap.size+1 by omega) _).far (p:=⟨w.heap.size+2,0,none⟩) (show w.heap.size+3≠w.heap.size+2 by omega) _
  ·have HGD:Hid (cS (-1) ((pre++[(⟨x,hx⟩:Tx)]).map (·.1))=some nn):=by show _=_;rw[HLF.out,if_neg hbad]
   have q1:(ee != 0)=false:=by
    rw[bne_eq_false_iff_eq];rcases Decidable.em (ee=0) with h|h
    ·exact h
    ·exact absurd (Or.inl h) hbad
   have hcs:decide (0<=f0)=false\/(decide (0<=f0)=true/\(nn != f0)=false):=by
    by_cases h:0<=f0
    ·right
     refine⟨dT h,?_⟩;rw[bne_eq_false_iff_eq];rcases Decidable.em (nn=f0) with h2|h2
     ·exact h2
     ·exact absurd (Or.inr ⟨h,h2⟩) hbad
    ·exact Or.inl (dF h)
   clear hbad;rcases hcs with q2|⟨q2,q3⟩
   all_goals
    gi_wp2_with fail
    refine⟨HFN.out _,?_⟩;refine(CallsIn.inRound l (HW.out _ _ _ _ _ HDC.out)).mono ?_;rintro e4 w4 ⟨rfl,hb4⟩;have HB4:=lH hb4;have N4:=lH (HAT.out.n0.call hb4);have H4:=lH (HAT.out.h0.call hb4);have E4:=lH (HAT.out.e0.call hb4);have F4:=lH (HAT.out.f0.call hb4);have f1:=F4.out.cell 0;have f2:=F4.out.froz 0;simp at f1;clear hb4;gi_wp2_with fail
    have t:aa (fun k=>w.heap.size<=k/\k<w.heap.size+4) U (w4.setCell ⟨w.heap.size+3,0,none⟩ (.int .i64 nn)):=
     aa.setCell (P:=fun k=>w.heap.size<=k/\k<w.heap.size+4) (aa.of_below HB4.out) (show w.heap.size<=w.heap.size+3/\w.heap.size+3<w.heap.size+4 by omega) _
    refine⟨bA.of (ko t (fun i _ hi=>cO HAT.out hi)) _,t.mono (fun k _ hk=>Or.inl ⟨hk,cO HAT.out hk⟩),nn,HGD.out,⟨?_,?_,?_,?_,HAT.out.lo,HAT.out.be.trans (t.below (B:=w.heap.size) (fun k _ hk=>hk.1) HAT.out.be.size)⟩⟩
    ·exact N4.out.far (p:=⟨w.heap.size+3,0,none⟩) (show w.heap.size≠w.heap.size+3 by omega) _
    ·exact H4.out.far (p:=⟨w.heap.size+3,0,none⟩) (show w.heap.size+1≠w.heap.size+3 by omega) _
    ·exact E4.out.far (p:=⟨w.heap.size+3,0,none⟩) (show w.heap.size+2≠w.heap.size+3 by omega) _
    ·exact dH F4.out _
 case done=>
  rintro D ys V hD hys ⟨f0,hlf,hat⟩ hKd;have HN:Hid (L=some f0):=by show _=_;rw[HLP.out,<-hys];exact hlf
  have HAT:=lH hat;have HKD:=lH hKd;have HDD:=lH hD;have n0:=hat.n0.cell 0;have h0:=hat.h0.cell 0;have e0:=hat.e0.cell 0;have f1:=hat.f0.cell 0;have n1:=hat.n0.froz 0;have h1:=hat.h0.froz 0;have e1:=hat.e0.froz 0;simp at n0 h0 e0 f1;have x1:w.heap.size≠w.heap.size+1:=by omega
  have x2:w.heap.size+1≠w.heap.size+2:=by omega
  have x3:w.heap.size≠w.heap.size+2:=by omega
  have hmx:Tryz.prog.follows .mixedOrders=true:=by kernel_rfl
  obtain⟨m,hm⟩:∃m,max f0 0=m:=⟨_,rfl⟩;obtain⟨q,hq⟩:∃q,decide (0<=f0)=q:=⟨_,rfl⟩;clear hD hys hlf hat hKd;gi_wp2_with fail
  gi_region_with_o fail
  all_goals gi_wp2_with fail
  all_goals
   have t:aa (fun k=>w.heap.size<=k/\k<w.heap.size+4) V (((V.setCell ⟨w.heap.size,0,none⟩ (.int .i64 m)).setCell ⟨w.heap.size+1,0,none⟩ (.bool q)).setCell ⟨w.heap.size+1+1,0,none⟩ (.int .i64 0)).drew:=
    (aa.setCell (P:=fun k=>w.heap.size<=k/\k<w.heap.size+4) (aa.setCell (P:=fun k=>w.heap.size<=k/\k<w.heap.size+4) (aa.setCell (P:=fun k=>w.heap.size<=k/\k<w.heap.size+4) (aa.refl _ _) (show w.heap.size<=w.heap.size/\w.heap.size<w.heap.size+4 by omega) _) (show w.heap.size<=w.heap.size+1/\w.heap.size+1<w.heap.size+4 by omega) _) (show w.heap.size<=w.heap.size+1+1/\w.heap.size+1+1<w.heap.size+4 by omega) _).drew
   have N5:ac (((V.setCell ⟨w.heap.size,0,none⟩ (.int .i64 m)).setCell ⟨w.heap.size+1,0,none⟩ (.bool q)).setCell ⟨w.heap.size+1+1,0,none⟩ (.int .i64 0)).drew w.heap.size #[.int .i64 m] 3:=((dH HAT.out.n0 _).far (p:=⟨w.heap.size+1,0,none⟩) x1 _).far (p:=⟨w.heap.size+1+1,0,none⟩) x3 _;have H5:ac (((V.setCell ⟨w.heap.size,0,none⟩ (.int .i64 m)).setCell ⟨w.heap.size+1,0,none⟩ (.bool q)).setCell ⟨w.heap.size+1+1,0,none⟩ (.int .i64 0)).drew (w.heap.size+1) #[.bool q] 4:=(dH (HAT.out.h0.far (p:=⟨w.heap.size,0,none⟩) x1.symm _) _).far (p:=⟨w.heap.size+1+1,0,none⟩) x2 _;have E5:ac (((V.setCell ⟨w.heap.size,0,none⟩ (.int .i64 m)).setCell ⟨w.heap.size+1,0,none⟩ (.bool q)).setCell ⟨w.heap.size+1+1,0,none⟩ (.int .i64 0)).drew (w.heap.size+2) #[.int .i64 0] 29:=dH ((HAT.out.e0.far (p:=⟨w.heap.size,0,none⟩) x3.symm _).far (p:=⟨w.heap.size+1,0,none⟩) x2.symm _) _;have HKD5:=(ko t (fun i _ hi=>cO HAT.out hi)).same D _ HKD.out rfl;have HBE5:=HAT.out.be.trans (t.below (B:=w.heap.size) (fun k _ hk=>hk.1) HAT.out.be.size);refine⟨by simp,.inl ⟨_,_,rfl,run_takeDeferred HKD5,?_⟩⟩;have hdb:∀{k:Nat} {cs:Array Value} {ty:TypeId},ac _ k cs ty->ac (World.putObj _ D (.deferred none)) k cs ty:=fun {k cs ty} hk=>hk.touch (bq _ D _) (fun e=>by subst e;unfold ac at hk;rw[HKD5] at hk;cases hk);refine⟨.tuple #[.int .i64 m,.bool q,.int .i64 0],gz Tryz.results113 _ _ _ w.heap.size (w.heap.size+1) (w.heap.size+2) _ _ _ rfl rfl rfl ((hdb N5).cell 0) ((hdb H5).cell 0) ((hdb E5).cell 0) HA.out.1 HA.out.2.1 HA.out.2.2,?_,?_⟩
   ·rw[HN.out,<-hm,<-hq]
    rfl
   ·exact HBE5.trans ((bq _ D _).below (B:=w.heap.size) (fun k _ e=>by rw[e];have h1:=HDD.out;have h2:=HZ2.out;have h3:=HZ3.out;omega) HBE5.size)
 case stop=>
  rintro D c pre V hD ⟨rest,hrest⟩ ⟨rfl,hlf,f0,hat⟩ hKd;have HN:Hid (L=none):=by show _=_;rw[HLP.out,<-hrest];exact jL _ _ _ hlf
  have HAT:=lH hat;have HKD:=lH hKd;have HDD:=lH hD;clear hD hrest hlf hat hKd;gi_wp2_with fail
  refine⟨by simp,.inl ⟨_,_,rfl,run_takeDeferred HKD.out,?_⟩⟩;have hdb:∀{k:Nat} {cs:Array Value} {ty:TypeId},ac V k cs ty->ac (V.putObj D (.deferred none)) k cs ty:=fun {k cs ty} hk=>hk.touch (bq V D _) (fun e=>by have h1:V.heap[k]? = some (.cells cs ty (0,0)):=hk;subst e;rw[HKD.out] at h1;cases h1);refine⟨.tuple #[.int .i64 0,.bool false,.int .i64 14],gz Tryz.results113 _ _ _ w.heap.size (w.heap.size+1) (w.heap.size+2) _ _ _ rfl rfl rfl ((hdb HAT.out.n0).cell 0) ((hdb HAT.out.h0).cell 0) ((hdb HAT.out.e0).cell 0) HA.out.1 HA.out.2.1 HA.out.2.2,?_,?_⟩
  ·rw[HN.out]
   rfl
  ·exact HAT.out.be.trans ((bq V D _).below (B:=w.heap.size) (fun k _ e=>by rw[e];have h1:=HDD.out;have h2:=HZ2.out;have h3:=HZ3.out;omega) HAT.out.be.size)
theorem o5 (fs:List Fd) (f:Value) (w:World) (h:bL w f fs) (hl:fs.length<=1000000) (hs:∀g∈fs,g.1.size<=1000000) (hs2:∀g∈fs,g.2.size<=1000000):
 Calls Tryz.prog 113 #[f] w fun e w'=>e=.returned (.tuple #[.int .i64 ((dS fs).elim 0 (max · 0)),.bool ((dS fs).elim false (fun r=>decide (0<=r))),.int .i64 ((dS fs).elim 14 (fun _=>0))])/\Below w.heap.size w w':=
 callsIn_wide.1 (of_in Fence.wide 9 (fun _ _ _ _ _ h=>callsIn_wide.2 h) (fun _=>trivial) rfl rfl (by decide) fs f w h hl hs hs2)
end Go.Proofs.YthjbodpeckebiaaGreatDoor
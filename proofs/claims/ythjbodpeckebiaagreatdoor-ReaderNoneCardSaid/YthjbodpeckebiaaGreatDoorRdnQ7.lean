/- Texts packed for one claim, 7 of 48: Cl Kp Km. -/
import Derived.Test.YthjbodpeckebiaaGreatDoorRdnQ2
import Derived.StillTail
set_option linter.unusedSimpArgs false
set_option linter.unusedVariables false
-- Cl
namespace Go
structure Cl (I:World->Prop) where
 val:World
 ok:I val
section
variable {P:Program} {I:World->Prop}
theorem Calls.cl_of {f:FuncId} {args:Array Value} {s:Cl I} {v:Value} (h:Calls P f args s.val fun e w'=>e=.returned v/\I w'):Calls P f args s.val fun e w''=>e=.returned v/\∃s':Cl I,w''=s'.val:=
 h.mono fun _ w'' ⟨he,hi⟩=>⟨he,⟨w'',hi⟩,rfl⟩
theorem Calls.cl_same {f:FuncId} {args:Array Value} {s:Cl I} {v:Value} (h:Calls P f args s.val fun e w'=>e=.returned v/\s.val=w'):Calls P f args s.val fun e w''=>e=.returned v/\∃s':Cl I,w''=s'.val:=
 h.mono fun _ w'' ⟨he,hi⟩=>⟨he,s,hi.symm⟩
end
section
variable {P:Program} {ops:Array Oper} {md:Region.Mode} {C:World->Prop}
def fP (P:Program) (md:Region.Mode) (ops:Array Oper) (C:World->Prop) (n:Nat) (L:Array Bool->Act->Prop):Nat->Array Bool->Act->Prop
 | 0,listed,a=>L listed a
 | f+1,listed,a=>
   Region.ready md ops listed≠[]/\∀i∈Region.ready md ops listed,i<n/\qOp P ops C i (fP P md ops C n L f (listed.setIfInBounds i true)) a
theorem eo {n g:Nat} {L:Array Bool->Act->Prop} {Q':Exit->Act->World->Prop} (hL:∀listed a w,C w->L listed a->wpAny P md ops Q' g listed a w):
 ∀(f:Nat) (listed:Array Bool) (a:Act) (w:World),C w->fP P md ops C n L f listed a->wpAny P md ops Q' (f+g) listed a w
 | 0,listed,a,w,hw,h=>by rw[uJ];exact hL _ _ _ hw h
 | f+1,listed,a,w,hw,h=>by
   rw[show f+1+g=(f+g)+1 by omega];exact⟨fun h0=>absurd h0 h.1,fun i hi=>wpOp_of_qOp hw (fun a' w' hw' h'=>eo hL f _ a' w' hw' h') (h.2 i hi).2⟩
theorem jk {n i:Nat} {oi:Oper} {v:Value} {L:Array Bool->Act->Prop} (hi:ops[i]? = some oi) (hsel:∀(j:Nat) (o:Oper) cs b,ops[j]? = some o->o.op≠.select cs b)
 (hs:Region.sinkB md ops n=true) (hc:Region.chainB md ops n=true) (hn:n<ops.size) (hin:i<n)
 (hdone:∀listed a,L listed a->∀j∈Region.ready md ops listed,n<=j):
 ∀(f:Nat) (listed:Array Bool) (a:Act),HeadInv md ops n listed->
   (∀j oj,ops[j]? = some oj->j≠i->listed.getD j true=false->(∀e∈oj.after,Region.binds md e=true->e.on≠i)->oi.apart ops oj=true)->
   i∈Region.ready md ops listed->YieldsIn P ops C oi v a->
   fP P md ops C n L f (listed.setIfInBounds i true) (a.put oi.dst v)->fP P md ops C n L (f+1) listed a:=by
 intro f;induction f with
 | zero=>
   intro listed a inv _ hr hy H;have hun:=(mem_ready.1 hr).1;refine⟨fun h=>(by rw[h] at hr;cases hr),fun j hj=>?_⟩
   have hjn:j<n:=by
    rcases uG j n with h|h
    ·exact h
    ·exact absurd hj (tail_waits hs hc hn inv _ i rfl hin hun j h)
   refine⟨hjn,?_⟩;by_cases hji:j=i
   ·subst hji;exact hy.qOp hi H
   ·have:=hdone _ _ H j (ready_mono hj hji)
    omega
 | succ f ih=>
   intro listed a inv hfree hr hy H;have hun:=(mem_ready.1 hr).1;refine⟨fun h=>(by rw[h] at hr;cases hr),fun j hj=>?_⟩
   have hjn:j<n:=by
    rcases uG j n with h|h
    ·exact h
    ·exact absurd hj (tail_waits hs hc hn inv _ i rfl hin hun j h)
   refine⟨hjn,?_⟩;by_cases hji:j=i
   ·subst hji;exact hy.qOp hi H
   ·have h1:=(H.2 j (ready_mono hj hji)).2
    obtain⟨hjun,oj,hoj,hall⟩:=mem_ready.1 hj
    have hnot:∀e∈oj.after,Region.binds md e=true->e.on≠i:=fun e he hb heq=>by
     have h1:=hall e he hb;rw[heq,getD_both hun] at h1;cases h1
    have h2:=qOp_put hoj (hfree j oj hoj hji hjun hnot) (fun cs b=>hsel i oi cs b hi) (fun cs b=>hsel j oj cs b hoj) hy h1
    have hfree':∀k ok,ops[k]? = some ok->k≠i->(listed.setIfInBounds j true).getD k true=false->
     (∀e∈ok.after,Region.binds md e=true->e.on≠i)->oi.apart ops ok=true:=fun k ok hk hki hun hno=>by
     refine hfree k ok hk hki ?_ hno;by_cases hjk:j=k
     ·subst hjk;exact hjun
     ·rw[getD_set_ne true hjk] at hun;exact hun
    refine qOp_mono (fun a' h3=>ih (listed.setIfInBounds j true) a' (inv.set hj hjn) hfree' (ready_mono hr (Ne.symm hji)) h3.1 ?_) h2;rw[Array.setIfInBounds_comm _ _ hji];exact h3.2
theorem gI {n g:Nat} {Lq:Act->Prop} (hsel:Region.noSelect ops=true) (hs:Region.sinkB md ops n=true) (hc:Region.chainB md ops n=true) (hn:n<ops.size):
 ∀(l:List Oper) (k:Nat) (listed:Array Bool) (a:Act),(∀j,j<l.length->l[j]? = ops[k+j]?)->k+l.length=n->HeadInv md ops n listed->
 Region.lexHead md ops g l.length k listed=true->wpQuiet P ops C Lq l a->
 fP P md ops C n (fun listed' a'=>Region.seqB md ops g n listed'=true/\Lq a') l.length listed a
 | [],k,listed,a,_,hk,_,hB,h=>by
   have:k=n:=by simpa using hk
   subst this;exact⟨by simpa [Region.lexHead] using hB,h⟩
 | o :: l,k,listed,a,hl,hk,inv,hB,h=>by
   have h0:ops[k]? = some o:=by simpa using (hl 0 (by simp)).symm
   simp only[t4,Region.lexHead,ux] at hB;obtain⟨⟨hr,hf⟩,hB'⟩:=hB;have hkn:k<n:=by simp only[t4] at hk;omega
   have hr':k∈Region.ready md ops listed:=by simpa using hr
   have hst:qOp P ops C k (wpQuiet P ops C Lq l) a:=by unfold qOp;simp only[h0];exact h
   obtain⟨v,hy,hK⟩:=yieldsIn_of_qOp h0 hst
   exact jk h0 (Region.noSelect_spec hsel) hs hc hn hkn (fun listed' a' hL=>seqB_ready hL.1) l.length listed a inv (Region.free_spec h0 hf) hr' hy
    (gI hsel hs hc hn l (k+1) _ _ (fun j hj=>by have:=hl (j+1) (by simp;omega);simpa [uY,Nat.add_comm 1 j] using this) (by simp only[t4] at hk;omega) (inv.set hr' hkn) hB' hK)
theorem dt {id:Nat} {Q:Exit->Act->World->Prop} {a:Act} {w:World} {l:List Oper} (n:Nat) (hI:C w.drew) (hm:P.follows .mixedOrders=true) (hB:Region.lexTailB .any l.toArray n=true)
 (h:wpQuiet P l.toArray C (fun a'=>∀w',C w'->wpList P l.toArray Q (l.drop n) a' w') (l.take n) a):(Code.region id l.toArray true).wp P Q a w:=by
 simp only[Region.lexTailB,ux,tY] at hB;obtain⟨⟨⟨⟨hsel,hn⟩,hs⟩,hc⟩,hlex⟩:=hB;have hn':n<l.length:=by simpa using hn
 have htl:(l.take n).length=n:=by simp;omega
 have hdl:(l.drop n).length=l.toArray.size - n:=by simp
 have inv0:HeadInv .any l.toArray n (Array.replicate l.toArray.size false):=
  ⟨by simp,fun j oj _ hl=>(by rw[getD_replicate_false] at hl;cases hl),fun t _ ht=>getD_in (by simpa using ht) (getD_replicate_false _ _)⟩
 have H:=gI (md:=.any) (g:=l.toArray.size - n) hsel hs hc hn (l.take n) 0 _ a (fun j hj=>by
  have hj':j<n:=by rw[htl] at hj;exact hj
  simp[hj']) (by simpa using htl) inv0 (by rw[htl];exact hlex) h
 refine wp_region_any hm ?_
 have:=eo (Q':=Q) (g:=l.toArray.size - n) (fun listed a' w' hw' hL=>by
  have:=wpAny_of_seq (md:=.any) (Q':=Q) (l.drop n) n listed a' w' (fun j=>by simp[uX]) (by rw[hdl];exact hL.1) (hL.2 w' hw')
  rwa [hdl] at this) _ _ _ w.drew hI H
 rw[htl,show n+(l.toArray.size - n)=l.toArray.size by omega] at this;exact this
theorem fR {I:World->Prop} {id:Nat} {Q:Exit->Act->World->Prop} {a:Act} {w:World} {l:List Oper} (n:Nat) (hI:I w.drew) (hm:P.follows .mixedOrders=true) (hB:Region.lexTailB .any l.toArray n=true)
 (h:wpQuiet P l.toArray (fun w'=>∃s:Cl I,w'=s.val) (fun a'=>∀w',(∃s:Cl I,w'=s.val)->wpList P l.toArray Q (l.drop n) a' w') (l.take n) a):(Code.region id l.toArray true).wp P Q a w:=
 dt (C:=fun w'=>∃s:Cl I,w'=s.val) n ⟨⟨_,hI⟩,rfl⟩ hm hB h
theorem eE {id:Nat} {Q:Exit->Act->World->Prop} {a:Act} {w:World} {l:List Oper} (n:Nat) (hm:P.follows .mixedOrders=true) (hB:Region.lexTailB .any l.toArray n=true)
 (h:wpQuiet P l.toArray (fun w'=>∃n,w'=w.drewN n) (fun a'=>∀w',(∃n,w'=w.drewN n)->wpList P l.toArray Q (l.drop n) a' w') (l.take n) a):(Code.region id l.toArray true).wp P Q a w:=
 dt (C:=fun w'=>∃n,w'=w.drewN n) n ⟨1,rfl⟩ hm hB h
end
end Go
-- Kp
namespace Go.Proofs.YthjbodpeckebiaaGreatDoor
open Go.RowKit
class Ov (w W:World):Prop where
 b:Below w.heap.size w W
class In (g:Nat) (W:World):Prop where
 lt:g<W.heap.size
class Sz (n:Nat) (W:World):Prop where
 e:n=W.heap.size
class rL (w:World) (g:Nat):Prop where
 le:w.heap.size<=g
class Rw (W:World) (g:Nat) (cs:outParam (Array Value)) (t:outParam TypeId):Prop where
 b:ac W g cs t
class Df (g g':Nat):Prop where
 ne:g≠g'
section
variable {w W w':World} {g g' n k i:Nat} {u:Value} {o:Obj} {cs:Array Value} {t:TypeId}
instance kov0:Ov w w:=⟨tU _ _⟩
instance kovA [h:Ov w W]:Ov w (W.alloc o):=⟨h.b.alloc h.b.size o⟩
instance kovD [h:Ov w W]:Ov w W.drew:=⟨h.b.drew⟩
instance kovN [h:Ov w W]:Ov w (W.drewN n):=⟨⟨h.b.os,h.b.tape,h.b.output,h.b.size,h.b.block⟩⟩
instance kovS [h:Ov w W] [j:rL w g]:Ov w (W.setCell ⟨g,i,none⟩ u):=⟨h.b.setCell j.le u⟩
instance kout0:rL w w.heap.size:=⟨nR _⟩
instance koutV [h:Ov w W]:rL w W.heap.size:=⟨h.b.size⟩
instance koutK [h:rL w g]:rL w (g+k):=⟨nT h.le (uv _ _)⟩
instance ksz0:Sz W.heap.size W:=⟨rfl⟩
instance kszA [h:Sz n W]:Sz (n+1) (W.alloc o):=⟨by rw[h.e];simp⟩
instance kszS [h:Sz n W] {p:Addr}:Sz n (W.setCell p u):=⟨by rw[h.e];simp[World.setCell]⟩
instance kszD [h:Sz n W]:Sz n W.drew:=⟨h.e⟩
instance kinN [h:Sz n W]:In n (W.alloc o):=⟨by rw[h.e];simp⟩
instance kinA [h:In g W]:In g (W.alloc o):=⟨by have:=h.lt;simp;omega⟩
instance kinS [h:In g W] {p:Addr}:In g (W.setCell p u):=⟨by have:=h.lt;simpa [World.setCell] using this⟩
instance kinD [h:In g W]:In g W.drew:=⟨h.lt⟩
@[go_sem high] theorem rM [h:In g W]:(W.alloc o).cell? ⟨g,i,none⟩=W.cell? ⟨g,i,none⟩:=World.cell?_alloc_lt W o _ h.lt
@[go_sem high] theorem rN [h:In g W]:(W.alloc o).frozen? ⟨g,i,none⟩=W.frozen? ⟨g,i,none⟩:=World.frozen?_alloc_old W o _ (Nat.ne_of_lt h.lt)
instance kdfS [h:In g W]:Df g W.heap.size:=⟨Nat.ne_of_lt h.lt⟩
instance kdfK [h:In g W]:Df g (W.heap.size+k):=⟨by have:=h.lt;omega⟩
instance kdfT [h:In g W]:Df W.heap.size g:=⟨Nat.ne_of_gt h.lt⟩
instance kdfL [h:In g W]:Df (W.heap.size+k) g:=⟨by have:=h.lt;omega⟩
instance kdf1:Df n (n+(k+1)):=⟨by omega⟩
instance kdf2:Df (n+(k+1)) n:=⟨by omega⟩
instance krwN [h:Sz n W]:Rw (W.alloc (.cells cs t)) n cs t:=⟨ac.new' h.e⟩
instance krwA [h:Rw W g cs t]:Rw (W.alloc o) g cs t:=⟨h.b.alloc o⟩
instance krwD [h:Rw W g cs t]:Rw W.drew g cs t:=⟨h.b⟩
instance krwS [h:Rw W g cs t]:Rw (W.setCell ⟨g,i,none⟩ u) g (cs.setIfInBounds i u) t:=⟨h.b.set i u⟩
instance krwF [h:Rw W g cs t] [d:Df g g']:Rw (W.setCell ⟨g',i,none⟩ u) g cs t:=⟨h.b.far d.ne u⟩
@[go_sem high] theorem sS {j:Nat} [d:Df g g']:(W.setCell ⟨g',j,none⟩ u).cell? ⟨g,i,none⟩=W.cell? ⟨g,i,none⟩:=World.cell?_setCell_other _ _ _ _ (fun e=>d.ne (by injection e with e;exact e.symm))
@[go_sem low] theorem cell_rw [h:Rw W g cs t]:W.cell? ⟨g,i,none⟩=cs[i]?:=h.b.cell i
@[go_sem low] theorem froz_rw [h:Rw W g cs t]:W.frozen? ⟨g,i,none⟩=false:=h.b.froz i
theorem rel (w:World):(∀W [Ov w W] g cs t [Rw w g cs t],Rw W g cs t)/\(∀W [Ov w W] g [In g w],In g W):=
 ⟨fun _ h _ _ _ j=>⟨j.b.call h.b⟩,fun _ h _ j=>⟨uD j.lt h.b.size⟩⟩
theorem Ov.trans (W:World) [h:Ov w W] [j:Ov W w']:Ov w w':=⟨h.b.trans (j.b.mono h.b.size)⟩
theorem Ov.low [h:Ov w W] (hb:Below w.heap.size W w'):Ov w w':=⟨h.b.trans hb⟩
theorem gP [h:Ov w W] (hb:Below W.heap.size W w'):Ov w w'/\(∀g [In g W],In g w')/\(∀g cs t [Rw W g cs t],Rw w' g cs t)/\(∀g i [In g W],w'.cell? ⟨g,i,none⟩=W.cell? ⟨g,i,none⟩)/\(∀g i [In g W],w'.frozen? ⟨g,i,none⟩=W.frozen? ⟨g,i,none⟩):=
 ⟨⟨h.b.trans (hb.mono h.b.size)⟩,fun _ j=>⟨uD j.lt hb.size⟩,fun _ _ _ j=>⟨j.b.call hb⟩,fun g i j=>hb.cell (p:=⟨g,i,none⟩) j.lt,fun g i j=>hb.frozen (p:=⟨g,i,none⟩) j.lt⟩
theorem Ov.of [h:Ov w W]:Below w.heap.size w W:=h.b
theorem Ov.ret [h:Ov w W] {e:Exit}:e=e/\Below w.heap.size w W:=⟨rfl,h.b⟩
end
section
variable {P:Program} {fn:Func} {R:Ending->World->Prop} {a:Act} {W:World} {p u ty g:Nat} {t:TypeId} {cs:Array Value} {d:TypeDesc} {v:Value}
theorem s5 [h:Rw W g cs t] (hr:fn.results=#[.cell p ty]) (hp:a.tmps.getD p undef=.pointer (some ⟨g,0,none⟩)) (hu:P.underlying ty=some d) (hd:(match d with | .struct _ | .array _ _=>true|_=>false)=true)
 (hi:(P.info? ty).map (·.size)=some cs.size) (hf:a.defers=[]) (hR:R (.returned (.agg cs)) W):bodyPost P fn R .ret a W:=
 ub (results_cell_row hr _ _ _ _ _ _ _ hp h.b hu hd hi) hf hR
theorem ed [h:Rw W g cs t] (hr:fn.results=#[.cell p ty,.tmp u]) (hp:a.tmps.getD p undef=.pointer (some ⟨g,0,none⟩)) (hu:P.underlying ty=some d) (hd:(match d with | .struct _ | .array _ _=>true|_=>false)=true)
 (hi:(P.info? ty).map (·.size)=some cs.size) (hf:a.defers=[]) (hv:a.tmps.getD u undef=v) (hR:R (.returned (.tuple #[.agg cs,v])) W):bodyPost P fn R .ret a W:=by
 refine ub (v:=.tuple #[.agg cs,v]) ?_ hf hR;have hl:=uh (P:=P) W g t ty cs (0,0) d h.b hu hd hi;rw[results_cell_tmp hr,hp,<-hv];show ((loadVar ty ⟨g,0,none⟩).run P W).andThen _=_;rw[hl];rfl
end
section
variable {P:Program} {w W0:World} {g i:Nat} {cs:Array Value} {t:TypeId}
structure InC (W0:World):Prop where
 o:∀(w:World) (s:Cl (Ov W0)) [Ov w W0],Ov w s.val
 n:∀(s:Cl (Ov W0)) g [In g W0],In g s.val
 r:∀(s:Cl (Ov W0)) g cs t [Rw W0 g cs t],Rw s.val g cs t
 c:∀(s:Cl (Ov W0)) g i [In g W0],s.val.cell? ⟨g,i,none⟩=W0.cell? ⟨g,i,none⟩
 f:∀(s:Cl (Ov W0)) g i [In g W0],s.val.frozen? ⟨g,i,none⟩=W0.frozen? ⟨g,i,none⟩
 e:Nonempty (Cl (Ov W0))
theorem inC (W0:World):InC W0:=
 ⟨fun _ s h=>⟨h.b.trans (s.ok.b.mono h.b.size)⟩,fun s _ h=>⟨uD h.lt s.ok.b.size⟩,fun s _ _ _ h=>⟨h.b.call s.ok.b⟩,
  fun s g i h=>s.ok.b.cell (p:=⟨g,i,none⟩) h.lt,fun s g i h=>s.ok.b.frozen (p:=⟨g,i,none⟩) h.lt,⟨⟨W0,inferInstance⟩⟩⟩
end
end Go.Proofs.YthjbodpeckebiaaGreatDoor
-- Km
namespace Go
def Region.fedB (md:Region.Mode) (ops:Array Oper) (n:Nat):Bool:=
 (List.range ops.size).all fun t=>decide (t<=n)||(List.range t).any fun j=>decide (n<=j)&&Region.waitsFor md ops t j
section
variable {P:Program} {ops:Array Oper} {md:Region.Mode} {C:World->Prop}
theorem lX {n:Nat} {listed:Array Bool} (hs:Region.sinkB md ops n=true) (hc:Region.fedB md ops n=true) (inv:HeadInv md ops n listed):
 ∀(d i:Nat),n - i=d->i<n->listed.getD i true=false->∀t,n<=t->t∉Region.ready md ops listed:=by
 intro d;induction d using Nat.strongRecOn with
 | _ d ih=>
   intro i hd hi hun t ht hr;obtain⟨_,ot,hot,hall⟩:=mem_ready.1 hr;have htlt:t<ops.size:=(ua.1 hot).1;by_cases htn:t=n
   ·subst htn
    have h1:=List.all_eq_true.1 hs i (List.mem_range.2 hi);obtain⟨j,hj,hj2⟩:=List.any_eq_true.1 h1;simp only[ux,tY] at hj2;obtain⟨oj,hoj,e,he,hb,hon⟩:=Region.waitsFor_spec hj2.2;have hjle:j<=t:=by have:=List.mem_range.1 hj;omega
    by_cases hjt:j=t
    ·subst hjt
     have:oj=ot:=ve (hoj.symm.trans hot);subst this;have h2:=hall e he hb;rw[hon,getD_both hun] at h2;cases h2
    ·cases hl:listed.getD j false with
     | true=>
       have h2:=inv.closed j oj hoj hl e he hb;rw[hon,getD_both hun] at h2;cases h2
     | false=>
       have hjs:j<listed.size:=by rw[inv.size];omega
       exact ih (t - j) (by omega) j rfl (by omega) (getD_in hjs hl) t (nR _) hr
   ·have h1:=List.all_eq_true.1 hc t (List.mem_range.2 htlt)
    simp only[uM,tY] at h1;rcases h1 with h1|h1
    ·omega
    ·obtain⟨j,hj,hj2⟩:=List.any_eq_true.1 h1
     simp only[ux,tY] at hj2;obtain⟨o',ho',e,he,hb,hon⟩:=Region.waitsFor_spec hj2.2;have:o'=ot:=ve (ho'.symm.trans hot);subst this;have h2:=hall e he hb;have hjt:=List.mem_range.1 hj;rw[hon,getD_both (inv.tail j hj2.1 (by omega))] at h2;cases h2
end
end Go
namespace Go.Proofs.YthjbodpeckebiaaGreatDoor
open Go.RowKit
end Go.Proofs.YthjbodpeckebiaaGreatDoor
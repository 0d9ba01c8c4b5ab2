/- Texts packed for one claim, 47 of 48: Ka Ks. -/
import Derived.Test.YthjbodpeckebiaaGreatDoorRdnQ7
import Derived.Test.YthjbodpeckebiaaGreatDoorRdnQ18
set_option linter.unusedSimpArgs false
set_option linter.unusedVariables false
-- Ka
namespace Go
def Oper.calm (o:Oper):Bool:=match o.op with
 | .move _ | .assign _ | .load .. | .binOp .. | .unOp .. | .convert .. | .slice .. | .fieldAddr .. | .field .. | .indexAddr .. | .index .. | .extract .. | .makeInterface .. | .nilCheck _=>true
 | .call c=>match c.callee with
   | .builtin .len | .builtin .min | .builtin .max=>true
   | _=>false
 | _=>false
theorem fN {P:Program} {s:Sem Value} {w w':World} {n:Next} (h:(do pure (Next.value (<-s)):Sem Next).run P w=.ok n w'):∃x,n=.value x:=by
 rw[Sem.run_bind] at h;cases hs:s.run P w with
 | ok x w1=>
   rw[hs,Result.andThen_ok,Sem.run_pure] at h;injection h with h1 _
   exact⟨x,h1.symm⟩
 | halt x w1=>rw[hs] at h;cases h
theorem Oper.calm_val {P:Program} {o:Oper} {ρ:Operand->Value} {w w':World} {n:Next} (h:o.calm=true) (hr:(execOp ρ o).run P w=.ok n w'):∃x,n=.value x:=by
 obtain⟨dst,op,type,pos,after,guard⟩:=o;cases op
 case move=>exact⟨_,by injection hr with h1 _;exact h1.symm⟩
 case assign=>exact⟨_,by injection hr with h1 _;exact h1.symm⟩
 case call c=>
  obtain⟨callee,args,argTypes⟩:=c;cases callee
  case builtin b=>
   cases b
   case len=>exact fN hr
   case min=>exact fN hr
   case max=>exact fN hr
   all_goals cases h
  all_goals cases h
 case nilCheck x=>
  unfold execOp at hr;simp only at hr;split at hr
  ·cases hr
  ·cases hr
  ·cases hr
  ·split at hr
   ·cases hr
   ·rw[Sem.run_bind] at hr
    revert hr;cases (Sem.run P _ w:Result _) with
    | ok y w1=>
      intro hr;rw[Result.andThen_ok,Sem.run_bind] at hr;revert hr;cases (Sem.run P _ w1:Result _) with
      | ok z w2=>
        intro hr;rw[Result.andThen_ok] at hr;split at hr
        ·cases hr
        ·exact⟨_,by injection hr with h1 _;exact h1.symm⟩
      | halt z w2=>intro hr;cases hr
    | halt y w1=>intro hr;cases hr
   ·exact⟨_,by injection hr with h1 _;exact h1.symm⟩
  ·exact⟨_,by injection hr with h1 _;exact h1.symm⟩
 all_goals first|cases h;done|exact fN hr
section
variable {P:Program} {ops:Array Oper} {md:Region.Mode} {S:World->Prop} {Q:Exit->Act->World->Prop}
theorem YieldsIn.calm {o:Oper} {v:Value} {a:Act} (hc:o.calm=true) (h:YieldsIn P ops S o v a):YieldsIf P ops S o v a:=by
 refine h.imp (fun⟨hw,hv⟩=>⟨hw,fun w hS=>?_⟩) id;have h1:=hv w hS;unfold Oper.quietAt at h1;cases hr:(execOp a.eval o).run P w with
 | ok n w'=>
   obtain⟨x,rfl⟩:=Oper.calm_val hc hr;rw[hr] at h1;obtain⟨rfl,rfl⟩:=h1;rfl
 | halt x w'=>rw[hr] at h1;exact h1.elim
theorem quiet_mono {K K':Act->Prop} (hKK:∀a,K a->K' a):∀(ll:List Oper) (b:Act),wpQuiet P ops S K ll b->wpQuiet P ops S K' ll b
 | [],b,h=>hKK b h
 | o :: ll,b,h=>by
   unfold wpQuiet at h ⊢;split
   ·rename_i hw
    rw[if_pos hw] at h;exact Oper.quiet_mono (fun a=>quiet_mono hKK ll a) h
   ·rename_i hw
    rw[if_neg hw] at h;exact quiet_mono hKK ll _ h
def ck (P:Program) (md:Region.Mode) (ops:Array Oper) (Q:Exit->Act->World->Prop) (S:World->Prop) (M:Nat) (L:Array Bool->Act->World->Prop):Nat->Array Bool->Act->World->Prop
 | 0,listed,a,w=>L listed a w
 | f+1,listed,a,w=>Region.ready md ops listed≠[]/\∀i∈Region.ready md ops listed,i<M/\wpOp P ops Q i (fun a' w'=>S w'/\ck P md ops Q S M L f (listed.setIfInBounds i true) a' w') a w
theorem gJ {M g:Nat} {L:Array Bool->Act->World->Prop} (hL:∀listed a w,L listed a w->wpAny P md ops Q g listed a w):
 ∀(f:Nat) (listed:Array Bool) (a:Act) (w:World),ck P md ops Q S M L f listed a w->wpAny P md ops Q (f+g) listed a w
 | 0,listed,a,w,h=>by rw[uJ];exact hL _ _ _ h
 | f+1,listed,a,w,h=>by
   rw[show f+1+g=(f+g)+1 by omega];exact⟨fun h0=>absurd h0 h.1,fun i hi=>wpOp_mono (fun a' w' h'=>gJ hL f _ a' w' h'.2) (h.2 i hi).2⟩
theorem qo {M i:Nat} {oi:Oper} {v:Value} {L:Array Bool->Act->World->Prop} (hi:ops[i]? = some oi) (hsel:∀(j:Nat) (o:Oper) cs b,ops[j]? = some o->o.op≠.select cs b)
 (hQ:∀c a w,Q (.panic c) (a.put oi.dst v) w->Q (.panic c) a w)
 (hs:Region.sinkB md ops M=true) (hc:Region.fedB md ops M=true) (hiM:i<M)
 (hdone:∀listed a w,L listed a w->∀j∈Region.ready md ops listed,M<=j):
 ∀(f:Nat) (listed:Array Bool) (a:Act) (w:World),HeadInv md ops M listed->
   (∀j oj,ops[j]? = some oj->j≠i->listed.getD j true=false->(∀e∈oj.after,Region.binds md e=true->e.on≠i)->oi.apart ops oj=true)->
   i∈Region.ready md ops listed->YieldsIf P ops S oi v a->S w->
   ck P md ops Q S M L f (listed.setIfInBounds i true) (a.put oi.dst v) w->ck P md ops Q S M L (f+1) listed a w:=by
 intro f;induction f with
 | zero=>
   intro listed a w inv _ hr hy hS H;have hun:=(mem_ready.1 hr).1;refine⟨fun h=>(by rw[h] at hr;cases hr),fun j hj=>?_⟩
   have hjn:j<M:=by
    rcases uG j M with h|h
    ·exact h
    ·exact absurd hj (lX hs hc inv _ i rfl hiM hun j h)
   refine⟨hjn,?_⟩;by_cases hji:j=i
   ·subst hji;exact hy.wpOp hi hS ⟨hS,H⟩
   ·have:=hdone _ _ _ H j (ready_mono hj hji)
    omega
 | succ f ih=>
   intro listed a w inv hfree hr hy hS H;have hun:=(mem_ready.1 hr).1;refine⟨fun h=>(by rw[h] at hr;cases hr),fun j hj=>?_⟩
   have hjn:j<M:=by
    rcases uG j M with h|h
    ·exact h
    ·exact absurd hj (lX hs hc inv _ i rfl hiM hun j h)
   refine⟨hjn,?_⟩;by_cases hji:j=i
   ·subst hji;exact hy.wpOp hi hS ⟨hS,H⟩
   ·have h1:=(H.2 j (ready_mono hj hji)).2
    obtain⟨hjun,oj,hoj,hall⟩:=mem_ready.1 hj
    have hnot:∀e∈oj.after,Region.binds md e=true->e.on≠i:=fun e he hb heq=>by
     have h1:=hall e he hb;rw[heq,getD_both hun] at h1;cases h1
    have h2:=wpOp_putIf hoj (hfree j oj hoj hji hjun hnot) (fun cs b=>hsel i oi cs b hi) (fun cs b=>hsel j oj cs b hoj) hQ hy h1
    have hfree':∀k ok,ops[k]? = some ok->k≠i->(listed.setIfInBounds j true).getD k true=false->
     (∀e∈ok.after,Region.binds md e=true->e.on≠i)->oi.apart ops ok=true:=fun k ok hk hki hun hno=>by
     refine hfree k ok hk hki ?_ hno;by_cases hjk:j=k
     ·subst hjk;exact hjun
     ·rw[getD_set_ne true hjk] at hun;exact hun
    refine wpOp_mono (fun a' w' h3=>⟨h3.2.1,ih (listed.setIfInBounds j true) a' w' (inv.set hj hjn) hfree' (ready_mono hr (Ne.symm hji)) h3.1 h3.2.1 ?_⟩) h2;rw[Array.setIfInBounds_comm _ _ hji];exact h3.2.2
def Region.list (listed:Array Bool) (k:Nat):Nat->Array Bool
 | 0=>listed
 | n+1=>Region.list (listed.setIfInBounds k true) (k+1) n
def Region.readB (md:Region.Mode) (ops:Array Oper):Nat->Nat->Array Bool->Bool
 | 0,_,_=>true
 | n+1,k,listed=>(Region.ready md ops listed).contains k&&Region.free md ops listed k&&((ops[k]?).map Oper.calm).getD false&&Region.readB md ops n (k+1) (listed.setIfInBounds k true)
theorem fg {M g:Nat} {L:Array Bool->Act->World->Prop} (hsel:Region.noSelect ops=true)
 (hQ:∀c a d v w,Q (.panic c) (a.put d v) w->Q (.panic c) a w)
 (hs:Region.sinkB md ops M=true) (hc:Region.fedB md ops M=true)
 (hdone:∀listed a w,L listed a w->∀j∈Region.ready md ops listed,M<=j) {w:World} (hS:S w):
 ∀(l:List Oper) (k:Nat) (listed:Array Bool) (a:Act),(∀j,j<l.length->l[j]? = ops[k+j]?)->k+l.length<=M->HeadInv md ops M listed->
 Region.readB md ops l.length k listed=true->wpQuiet P ops S (fun a'=>HeadInv md ops M (Region.list listed k l.length)->ck P md ops Q S M L g (Region.list listed k l.length) a' w) l a->
 ck P md ops Q S M L (l.length+g) listed a w
 | [],k,listed,a,_,hk,inv,hB,h=>by
   rw[uT,uJ];exact h inv
 | o :: l,k,listed,a,hl,hk,inv,hB,h=>by
   have h0:ops[k]? = some o:=by simpa using (hl 0 (by simp)).symm
   simp only[t4,Region.readB,ux,h0,Option.map_some,Option.getD_some] at hB;obtain⟨⟨⟨hr,hf⟩,hcm⟩,hB'⟩:=hB;have hkM:k<M:=by simp only[t4] at hk;omega
   have hr':k∈Region.ready md ops listed:=by simpa using hr
   have hst:qOp P ops S k (wpQuiet P ops S (fun a'=>HeadInv md ops M (Region.list listed k (o :: l).length)->ck P md ops Q S M L g (Region.list listed k (o :: l).length) a' w) l) a:=by unfold qOp;simp only[h0];exact h
   obtain⟨v,hy,hK⟩:=yieldsIn_of_qOp h0 hst;rw[t4,show l.length+1+g=(l.length+g)+1 by omega]
   exact qo h0 (Region.noSelect_spec hsel) (fun c a w=>hQ c a _ _ w) hs hc hkM hdone (l.length+g) listed a w inv (Region.free_spec h0 hf) hr' (hy.calm hcm) hS
    (fg hsel hQ hs hc hdone hS l (k+1) _ _ (fun j hj=>by have:=hl (j+1) (by simp;omega);simpa [uY,Nat.add_comm 1 j] using this) (by simp only[t4] at hk;omega) (inv.set hr' hkM) hB' hK)
theorem cW {x:Oper} (p:Value) {K:Act->Prop}:∀(l:List Oper) (b:Act),(l.all fun o=>x.apart ops o)=true->(∀o∈l,∀cs b,o.op≠.select cs b)->wpQuiet P ops S K l (b.put x.dst p)->wpQuiet P ops S (fun a=>K (a.put x.dst p)) l b
 | [],b,_,_,h=>h
 | o :: l,b,ha,hs,h=>by
   rw[List.all_cons,ux] at ha;obtain⟨h1,h2,_⟩:=Oper.apart_spec ha.1;unfold wpQuiet at h ⊢;rw[wanted_put o b x.dst p h1] at h;split
   ·rename_i hw
    rw[if_pos hw] at h;obtain⟨v,hv,hn⟩:=h;refine⟨v,fun w hw'=>?_,cW p l _ ha.2 (fun o ho=>hs o (List.mem_cons_of_mem _ ho)) (by rw[<-Act.put_comm b p v h2];exact hn)⟩;have:=hv w hw';unfold Oper.quietAt at this ⊢;rwa [execOp_put o (fun cs b=>hs o (by simp) cs b) b x.dst p h1] at this
   ·rename_i hw
    rw[if_neg hw] at h;exact cW p l _ ha.2 (fun o ho=>hs o (List.mem_cons_of_mem _ ho)) (by rw[<-Act.put_comm b p undef h2];exact h)
def Region.allocB (md:Region.Mode) (ops:Array Oper) (n m:Nat):Bool:=
 let F:=Array.replicate ops.size false
 let L1:=Region.list F 0 n
 let L3:=Region.list (L1.setIfInBounds n true) (n+1) (m - (n+1))
 let L4:=Region.list ((L1.setIfInBounds m true).setIfInBounds n true) (n+1) (m - (n+1))
 Region.noSelect ops&&decide (n<m)&&decide (m+1<=ops.size)&&Region.sinkB md ops (m+1)&&Region.fedB md ops (m+1)&&Region.readB md ops n 0 F&&decide (Region.ready md ops L1=[n,m]) &&
 Region.readB md ops (m - (n+1)) (n+1) (L1.setIfInBounds n true)&&decide (Region.ready md ops L3=[m])&&decide (Region.ready md ops (L1.setIfInBounds m true)=[n])&&Region.readB md ops (m - (n+1)) (n+1) ((L1.setIfInBounds m true).setIfInBounds n true) &&
 Region.seqB md ops (ops.size - (m+1)) (m+1) (L3.setIfInBounds m true)&&Region.seqB md ops (ops.size - (m+1)) (m+1) L4
end
end Go
namespace Go.Proofs.YthjbodpeckebiaaGreatDoor
open Go.RowKit
structure AtA (W0 W W1 W2:World) (g:Nat) (cs:Array Value) (t:TypeId):Prop where
 o:∀u [Ov u W0],Ov u W2
 v:∀u [Ov u W0],Ov u W
 n:∀k [In k W0],In k W2
 r:∀k ds e [Rw W0 k ds e],Rw W2 k ds e
 c:∀k i [In k W0],W2.cell? ⟨k,i,none⟩=W0.cell? ⟨k,i,none⟩
 f:∀k i [In k W0],W2.frozen? ⟨k,i,none⟩=W0.frozen? ⟨k,i,none⟩
 x:Rw W2 g cs t
 z:In g W2
 y:∀u [Ov u W0],rL u g
 d:∀k [In k W0],Df k g
 d':∀k [In k W0],Df g k
 b:Below W1.heap.size W1 W2
 far:g<W.heap.size\/W1.heap.size<=g
theorem atA {W0 W W1 W2:World} {g:Nat} {cs:Array Value} {t:TypeId} (h:Ov W0 W2) (h':Ov W0 W) (x:Rw W2 g cs t) (hz:g<W2.heap.size) (hy:W0.heap.size<=g) (b:Below W1.heap.size W1 W2) (far:g<W.heap.size\/W1.heap.size<=g):AtA W0 W W1 W2 g cs t:=
 ⟨fun u j=>⟨j.b.trans (h.b.mono j.b.size)⟩,fun u j=>⟨j.b.trans (h'.b.mono j.b.size)⟩,fun k j=>⟨uD j.lt h.b.size⟩,fun _ _ _ j=>⟨j.b.call h.b⟩,fun k i j=>h.b.cell (p:=⟨k,i,none⟩) j.lt,fun k i j=>h.b.frozen (p:=⟨k,i,none⟩) j.lt,x,⟨hz⟩,
  fun u j=>⟨nT j.b.size hy⟩,fun k j=>⟨by have:=j.lt;omega⟩,fun k j=>⟨by have:=j.lt;omega⟩,b,far⟩
theorem AtA.own {W0 W W1 W2:World} {g:Nat} {cs:Array Value} {t:TypeId} (a:AtA W0 W W1 W2 g cs t) {e:TypeId} {size:Nat} {v:Value} {n:Nat} {xs:List Value} (h:W1.ownsRow W.heap.size e size v n xs) {w3:World} (T:aa (fun j=>j=g) W2 w3):w3.ownsRow W.heap.size e size v n xs:=by
 have h2:=ab h (P:=fun _=>False) (aa.of_below a.b) (fun _ _=>id);refine ab h2 T (fun k hk e=>?_);have h3:=World.ownsRow.lt h k hk;have:=a.far;omega
class Tg (g:Nat) (W W':World):Prop where
 t:aa (fun j=>j=g) W W'
section
variable {g g' i:Nat} {W W':World} {o:Obj} {u:Value}
instance ktg0:Tg g W W:=⟨aa.refl _ _⟩
instance ktgA [h:Tg g W W']:Tg g W (W'.alloc o):=⟨h.t.alloc o⟩
instance ktgD [h:Tg g W W']:Tg g W W'.drew:=⟨h.t.drew⟩
instance ktgS [h:Tg g W W']:Tg g W (W'.setCell ⟨g,i,none⟩ u):=⟨h.t.setCell rfl u⟩
instance ktgO [h:Tg g W W'] [j:rL W g']:Tg g W (W'.setCell ⟨g',i,none⟩ u):=
 ⟨have k:aa (fun j=>j=g\/j=g') W (W'.setCell ⟨g',i,none⟩ u):=aa.setCell (P:=fun j=>j=g\/j=g') (h.t.mono fun _ _ e=>Or.inl e) (p:=⟨g',i,none⟩) (Or.inr rfl) u
  k.mono fun k hk e=>by rcases e with e|e;exact e;subst e;have:=j.le;omega⟩
end
section
variable {w W:World} {g g' n i:Nat} {cs cs':Array Value} {t:TypeId}
theorem Ov.row [h:Ov w W] [j:rL w g]:Below w.heap.size w (W.setRow g cs):=h.b.trans ⟨rfl,rfl,rfl,by simp[World.setRow],fun k hk=>setRow_other W g k cs (by have:=j.le;omega)⟩
instance kovR [h:Ov w W] [j:rL w g]:Ov w (W.setRow g cs):=⟨Ov.row⟩
instance kszR [h:Sz n W]:Sz n (W.setRow g cs):=⟨by rw[h.e];simp⟩
instance kinR [h:In n W]:In n (W.setRow g cs):=⟨by have:=h.lt;simpa using this⟩
instance krwR [h:Rw W g cs t]:Rw (W.setRow g cs') g cs' t:=⟨setRow_heap W g cs cs' t _ h.b⟩
instance krwQ [h:Rw W g cs t] [d:Df g g']:Rw (W.setRow g' cs') g cs t:=⟨(setRow_other W g' g cs' d.ne).trans h.b⟩
instance ktgR [h:Tg g w W]:Tg g w (W.setRow g cs):=⟨h.t.setRow rfl cs⟩
instance ktgQ [h:Tg g w W] [j:rL w g']:Tg g w (W.setRow g' cs):=
 ⟨have k:aa (fun j=>j=g\/j=g') w (W.setRow g' cs):=aa.setRow (P:=fun j=>j=g\/j=g') (h.t.mono fun _ _ e=>Or.inl e) (Or.inr rfl) cs
  k.mono fun k hk e=>by rcases e with e|e;exact e;subst e;have:=j.le;omega⟩
@[go_sem high] theorem qG [d:Df g g']:(W.setRow g' cs).cell? ⟨g,i,none⟩=W.cell? ⟨g,i,none⟩:=cell_setRow_other W g' cs _ d.ne
end
theorem kx {w V:World} [o:Ov w V] {B:Nat} {e:TypeId} {size:Nat} {v:Value} {n:Nat} {xs:List Value} (h:w.ownsRow B e size v n xs):V.ownsRow B e size v n xs:=
 ab h (P:=fun _=>False) (aa.of_below o.b) (fun _ _=>id)
theorem regA {P:Program} {W0:World} {id:Nat} {Q:Exit->Act->World->Prop} {a:Act} {l:List Oper} (n m:Nat) (o om:Oper) (cs:Array Value) (t:TypeId) (f:FuncId) (args:Array Value) (T:Value->World->World->Prop) (hm:P.follows .mixedOrders=true) (hB:Region.allocB .any l.toArray n m=true) (ho:l[n]? = some o) (hom:l[m]? = some om) (hg:o.guard=none) (hgm:om.guard=none)
 (hap:(om.apart l.toArray o&&((l.take m).drop (n+1)).all fun x=>om.apart l.toArray x)=true)
 (hQ:∀c a d v w,Q (.panic c) (a.put d v) w->Q (.panic c) a w)
 (hal:∀ρ W,(execOp ρ om).run P W=.ok (.value (.pointer (some ⟨W.heap.size,0,none⟩))) (W.alloc (.cells cs t)))
 (hcl:∀V,(∀u [Ov u W0],Ov u V)->Calls P f args V fun e w1=>∃v,e=.returned v/\Below V.heap.size V w1/\T v V w1)
 (
  h:InC W0->
  wpQuiet P l.toArray (fun w'=>∃s:Cl (Ov W0),w'=s.val) (fun a'=>
   (∀s:Cl (Ov W0),(execOp a'.eval o).run P s.val=.ok (.enter f args) s.val)/\
   ∀v W W1 W2 g,AtA W0 W W1 W2 g cs t->T v W W1->
     wpQuiet P l.toArray (fun w'=>∃s:Cl (Ov W0),w'=s.val) (fun a''=>wpList P l.toArray Q (l.drop (m+1)) a'' W2) ((l.take m).drop (n+1)) ((a'.put om.dst (.pointer (some ⟨g,0,none⟩))).put o.dst v)) (l.take n) a):
 (Code.region id l.toArray true).wp P Q a W0:=by
 simp only[Region.allocB,ux,tY] at hB;obtain⟨⟨⟨⟨⟨⟨⟨⟨⟨⟨⟨⟨hsel,hnm⟩,hmz⟩,hs⟩,hc⟩,hr1⟩,hy1⟩,hr2⟩,hy2⟩,hy3⟩,hr3⟩,hq1⟩,hq2⟩:=hB;rw[ux] at hap;have hmz':m+1<=l.length:=by simpa using hmz
 have hsz:l.toArray.size=l.length:=by simp
 have htl:(l.take n).length=n:=by simp;omega
 have hml:((l.take m).drop (n+1)).length=m - (n+1):=by simp;omega
 have h0:l.toArray[n]? = some o:=by simpa using ho
 have h0m:l.toArray[m]? = some om:=by simpa using hom
 have hms:∀o∈(l.take m).drop (n+1),∀cs b,o.op≠.select cs b:=fun x hx cs b=>by
  obtain⟨j,hj⟩:=vi.1 (List.mem_of_mem_take (List.mem_of_mem_drop hx));exact Region.noSelect_spec hsel j x cs b (by simpa using hj)
 have hmid:∀j,j<((l.take m).drop (n+1)).length->((l.take m).drop (n+1))[j]? = l.toArray[n+1+j]?:=fun j hj=>by
  rw[hml] at hj;rw[uX,vb (by omega)];simp
 have inv0:HeadInv .any l.toArray (m+1) (Array.replicate l.toArray.size false):=
  ⟨by simp,fun j oj _ hl=>(by rw[getD_replicate_false] at hl;cases hl),fun t _ ht=>getD_in (by simpa using ht) (getD_replicate_false _ _)⟩
 obtain⟨L,hL⟩:∃L:Array Bool->Act->World->Prop,L=fun listed a w=>Region.seqB .any l.toArray (l.toArray.size - (m+1)) (m+1) listed=true/\wpList P l.toArray Q (l.drop (m+1)) a w:=⟨_,rfl⟩;have hdone:∀listed a w,L listed a w->∀j∈Region.ready .any l.toArray listed,m+1<=j:=fun listed a w h=>by rw[hL] at h;exact seqB_ready h.1
 refine wp_region_any hm ?_
 have key:∀(w:World),Ov W0 w->ck P .any l.toArray Q (fun w'=>∃s:Cl (Ov W0),w'=s.val) (m+1) L ((l.take n).length+(m+1 - n)) (Array.replicate l.toArray.size false) a w:=by
  intro W hW;refine fg hsel hQ hs hc hdone ⟨⟨W,hW⟩,rfl⟩ (l.take n) 0 _ a (fun j hj=>by rw[htl] at hj;rw[vb hj];simp) (by rw[htl];omega) inv0 (by rw[htl];exact hr1) ?_;have H:=h (inC W0);refine quiet_mono (fun a'=>?_) _ _ H;rintro ⟨hcall,hrest⟩ inv1;rw[htl] at inv1 ⊢;rw[show m+1 - n=((m - (n+1))+1)+1 by omega];have hwn:∀b:Act,Region.wanted o (yielded l.toArray b.tmps)=true:=fun b=>by unfold Region.wanted;rw[hg]
  have hwm:∀b:Act,Region.wanted om (yielded l.toArray b.tmps)=true:=fun b=>by unfold Region.wanted;rw[hgm]
  have hn1:n∈Region.ready .any l.toArray (Region.list (Array.replicate l.toArray.size false) 0 n):=by rw[hy1];simp
  have hm1:m∈Region.ready .any l.toArray (Region.list (Array.replicate l.toArray.size false) 0 n):=by rw[hy1];simp
  obtain⟨hap1,hap2,_⟩:=Oper.apart_spec hap.1;refine⟨fun e=>(by rw[hy1] at e;cases e),fun i hi=>?_⟩;rw[hy1] at hi;have hi2:i=n\/i=m:=by simpa using hi
  refine⟨by omega,?_⟩;rcases hi2 with rfl|rfl
  ·unfold wpOp
   simp only[h0];rw[if_pos (hwn a')];left
   unfold Oper.wp;rw[hcall ⟨W,hW⟩];refine Calls.mono (hcl W fun u j=>⟨j.b.trans (hW.b.mono j.b.size)⟩) ?_;rintro e w1 ⟨v,rfl,hb,hT⟩;have hW1:Ov W0 w1:=⟨hW.b.trans (hb.mono hW.b.size)⟩;refine⟨⟨⟨w1,hW1⟩,rfl⟩,?_⟩;have inv2:=inv1.set hn1 (by omega:i<m+1);have hA:Below w1.heap.size w1 (w1.alloc (.cells cs t)):=(tU _ _).alloc (nR _) _;have hW2:Ov W0 (w1.alloc (.cells cs t)):=⟨hW1.b.alloc hW1.b.size _⟩;have H2:=hrest v W w1 _ w1.heap.size (atA hW2 hW ⟨ac.new _ _ _⟩ (by simp) hW1.b.size hA (Or.inr (nR _))) hT;rw[Act.put_comm a' _ _ hap2] at H2;have H3:=cW (x:=om) _ _ _ hap.2 hms H2;rw[<-hml];refine fg hsel hQ hs hc hdone ⟨⟨w1,hW1⟩,rfl⟩ _ (i+1) _ _ hmid (by rw[hml];omega) inv2 (by rw[hml];exact hr2) ?_;refine quiet_mono (fun a''=>?_) _ _ H3;intro hfin inv3;rw[hml] at inv3 ⊢;refine⟨fun e=>(by rw[hy2] at e;cases e),fun i2 hi2=>?_⟩;rw[hy2] at hi2;have hi3:i2=m:=by simpa using hi2
   subst hi3;refine⟨by omega,?_⟩;unfold wpOp;simp only[h0m];rw[if_pos (hwm _)];left
   unfold Oper.wp;rw[hal];refine⟨⟨⟨_,hW2⟩,rfl⟩,?_⟩;unfold ck;rw[hL];exact⟨hq1,hfin⟩
  ·unfold wpOp
   simp only[h0m];rw[if_pos (hwm a')];left
   unfold Oper.wp;rw[hal];have hW1:Ov W0 (W.alloc (.cells cs t)):=⟨hW.b.alloc hW.b.size _⟩;refine⟨⟨⟨_,hW1⟩,rfl⟩,?_⟩;have inv2:=inv1.set hm1 (by omega:i<i+1);refine⟨fun e=>(by rw[hy3] at e;cases e),fun i2 hi2=>?_⟩;have hn2:=hi2;rw[hy3] at hi2;have hi3:i2=n:=by simpa using hi2
   subst hi3;refine⟨by omega,?_⟩;unfold wpOp;simp only[h0];rw[if_pos (hwn _)];left
   unfold Oper.wp;rw[execOp_put o (fun cs b=>Region.noSelect_spec hsel i2 o cs b h0) a' om.dst _ hap1,hcall ⟨_,hW1⟩];refine Calls.mono (hcl _ fun u j=>⟨j.b.trans (hW1.b.mono j.b.size)⟩) ?_;rintro e w1 ⟨v,rfl,hb,hT⟩;have hW2:Ov W0 w1:=⟨hW1.b.trans (hb.mono hW1.b.size)⟩;refine⟨⟨⟨w1,hW2⟩,rfl⟩,?_⟩;have inv3:=inv2.set hn2 (by omega:i2<i+1);have H2:=hrest v _ w1 w1 W.heap.size (atA hW2 hW1 ⟨(ac.new W cs t).call hb⟩ (uD (by simp) hb.size) hW.b.size (tU _ _) (Or.inl (by simp))) hT;have hf:i - (i2+1)=((l.take i).drop (i2+1)).length+0:=by rw[hml];rfl
   rw[hf];refine fg hsel hQ hs hc hdone ⟨⟨w1,hW2⟩,rfl⟩ _ (i2+1) _ _ hmid (by rw[hml];omega) inv3 (by rw[hml];exact hr3) ?_;refine quiet_mono (fun a''=>?_) _ _ H2;intro hfin inv4;rw[hml];unfold ck;rw[hL];exact⟨hq2,hfin⟩
 have K:=gJ (md:=.any) (Q:=Q) (S:=fun w'=>∃s:Cl (Ov W0),w'=s.val) (M:=m+1) (g:=l.toArray.size - (m+1)) (L:=L) (fun listed a' w' hw'=>by
  rw[hL] at hw';have:=wpAny_of_seq (md:=.any) (Q':=Q) (l.drop (m+1)) (m+1) listed a' w' (fun j=>by simp[uX]) (by rw[t7,<-hsz];exact hw'.1) hw'.2
  rwa [t7,<-hsz] at this) _ _ _ _ (key W0.drew inferInstance)
 rw[htl,show n+(m+1 - n)+(l.toArray.size - (m+1))=l.toArray.size by omega] at K;exact K
end Go.Proofs.YthjbodpeckebiaaGreatDoor
-- Ks
namespace Go
section
variable {P:Program} {ops:Array Oper} {md:Region.Mode} {S:World->Prop} {Q:Exit->Act->World->Prop}
def dc (P:Program) (md:Region.Mode) (ops:Array Oper) (Q:Exit->Act->World->Prop) (S:World->Prop):Nat->Array Bool->Act->World->Prop
 | 0,listed,a,w=>Region.ready md ops listed=[]/\Q .normal a w
 | f+1,listed,a,w=>Region.ready md ops listed≠[]/\∀i∈Region.ready md ops listed,wpOp P ops Q i (fun a' w'=>S w'/\dc P md ops Q S f (listed.setIfInBounds i true) a' w') a w
theorem eZ:∀(f:Nat) (listed:Array Bool) (a:Act) (w:World),dc P md ops Q S f listed a w->wpAny P md ops Q f listed a w
 | 0,_,_,_,h=>h
 | f+1,_,_,_,h=>⟨fun h0=>absurd h0 h.1,fun i hi=>wpOp_mono (fun a' w' h'=>eZ f _ a' w' h'.2) (h.2 i hi)⟩
theorem rQ {i:Nat} {oi:Oper} {v:Value} (hi:ops[i]? = some oi) (hsel:∀(j:Nat) (o:Oper) cs b,ops[j]? = some o->o.op≠.select cs b)
 (hQ:∀c a w,Q (.panic c) (a.put oi.dst v) w->Q (.panic c) a w):
 ∀(f:Nat) (listed:Array Bool) (a:Act) (w:World),
   (∀j oj,ops[j]? = some oj->j≠i->listed.getD j true=false->(∀e∈oj.after,Region.binds md e=true->e.on≠i)->oi.apart ops oj=true)->
   i∈Region.ready md ops listed->YieldsIf P ops S oi v a->S w->
   dc P md ops Q S f (listed.setIfInBounds i true) (a.put oi.dst v) w->dc P md ops Q S (f+1) listed a w:=by
 intro f;induction f with
 | zero=>
   intro listed a w _ hr hy hS H;refine⟨fun h=>(by rw[h] at hr;cases hr),fun j hj=>?_⟩;by_cases hji:j=i
   ·subst hji;exact hy.wpOp hi hS ⟨hS,H⟩
   ·have:=ready_mono hj hji
    rw[H.1] at this;cases this
 | succ f ih=>
   intro listed a w hfree hr hy hS H;refine⟨fun h=>(by rw[h] at hr;cases hr),fun j hj=>?_⟩;by_cases hji:j=i
   ·subst hji;exact hy.wpOp hi hS ⟨hS,H⟩
   ·have hun:=(mem_ready.1 hr).1
    have h1:=H.2 j (ready_mono hj hji);obtain⟨hjun,oj,hoj,hall⟩:=mem_ready.1 hj
    have hnot:∀e∈oj.after,Region.binds md e=true->e.on≠i:=fun e he hb heq=>by
     have h1:=hall e he hb;rw[heq,getD_both hun] at h1;cases h1
    have h2:=wpOp_putIf hoj (hfree j oj hoj hji hjun hnot) (fun cs b=>hsel i oi cs b hi) (fun cs b=>hsel j oj cs b hoj) hQ hy h1
    have hfree':∀k ok,ops[k]? = some ok->k≠i->(listed.setIfInBounds j true).getD k true=false->
     (∀e∈ok.after,Region.binds md e=true->e.on≠i)->oi.apart ops ok=true:=fun k ok hk hki hun hno=>by
     refine hfree k ok hk hki ?_ hno;by_cases hjk:j=k
     ·subst hjk;exact hjun
     ·rw[getD_set_ne true hjk] at hun;exact hun
    refine wpOp_mono (fun a' w' h3=>⟨h3.2.1,ih (listed.setIfInBounds j true) a' w' hfree' (ready_mono hr (Ne.symm hji)) h3.1 h3.2.1 ?_⟩) h2;rw[Array.setIfInBounds_comm _ _ hji];exact h3.2.2
theorem fj {g:Nat} (hsel:Region.noSelect ops=true) (hQ:∀c a d v w,Q (.panic c) (a.put d v) w->Q (.panic c) a w) {w:World} (hS:S w):
 ∀(l:List Oper) (k:Nat) (listed:Array Bool) (a:Act),(∀j,j<l.length->l[j]? = ops[k+j]?)->
 Region.readB md ops l.length k listed=true->wpQuiet P ops S (fun a'=>dc P md ops Q S g (Region.list listed k l.length) a' w) l a->
 dc P md ops Q S (l.length+g) listed a w
 | [],k,listed,a,_,hB,h=>by rw[uT,uJ];exact h
 | o :: l,k,listed,a,hl,hB,h=>by
   have h0:ops[k]? = some o:=by simpa using (hl 0 (by simp)).symm
   simp only[t4,Region.readB,ux,h0,Option.map_some,Option.getD_some] at hB;obtain⟨⟨⟨hr,hf⟩,hcm⟩,hB'⟩:=hB;have hr':k∈Region.ready md ops listed:=by simpa using hr
   have hst:qOp P ops S k (wpQuiet P ops S (fun a'=>dc P md ops Q S g (Region.list listed k (o :: l).length) a' w) l) a:=by unfold qOp;simp only[h0];exact h
   obtain⟨v,hy,hK⟩:=yieldsIn_of_qOp h0 hst;rw[t4,show l.length+1+g=(l.length+g)+1 by omega]
   exact rQ h0 (Region.noSelect_spec hsel) (fun c a w=>hQ c a _ _ w) (l.length+g) listed a w (Region.free_spec h0 hf) hr' (hy.calm hcm) hS
    (fj hsel hQ hS l (k+1) _ _ (fun j hj=>by have:=hl (j+1) (by simp;omega);simpa [uY,Nat.add_comm 1 j] using this) hB' hK)
def aB (P:Program) (ops:Array Oper) (Q:Exit->Act->World->Prop) (S:World->Prop):List Oper->Act->World->Prop
 | [],a,w=>Q .normal a w
 | o :: l,a,w=>if Region.wanted o (yielded ops a.tmps)=true then
     (
      if o.calm=true then ∃v,(execOp a.eval o).run P w=.ok (.value v) w/\aB P ops Q S l (a.put o.dst v) w
      else o.wp P a w (fun a' w'=>S w'/\aB P ops Q S l a' w') Q)
     else aB P ops Q S l (a.put o.dst undef) w
theorem nA:∀(l:List Oper) (k:Nat) (listed:Array Bool) (a:Act) (w:World),S w->(∀j,l[j]? = ops[k+j]?)->
 Region.seqB md ops l.length k listed=true->aB P ops Q S l a w->dc P md ops Q S l.length listed a w
 | [],_,_,_,_,_,_,hB,h=>⟨by simpa [Region.seqB] using hB,h⟩
 | o :: l,k,listed,a,w,hS,hl,hB,h=>by
   have h0:ops[k]? = some o:=by simpa using (hl 0).symm
   simp only[t4,Region.seqB,ux,tY] at hB;refine⟨fun h1=>(by rw[hB.1] at h1;cases h1),fun i hi=>?_⟩;rw[hB.1] at hi;have hik:i=k:=by simpa using hi
   subst hik
   have nx:∀a' w',S w'->aB P ops Q S l a' w'->S w'/\dc P md ops Q S l.length (listed.setIfInBounds i true) a' w':=fun a' w' h1 h2=>
    ⟨h1,nA l (i+1) _ a' w' h1 (fun j=>by have:=hl (j+1);simpa [uY,Nat.add_comm 1 j] using this) hB.2 h2⟩
   unfold aB at h;unfold wpOp;simp only[h0];split
   ·rename_i hw
    rw[if_pos hw] at h;by_cases hc:o.calm=true
    ·rw[if_pos hc] at h
     obtain⟨v,hv,hn⟩:=h;refine Or.inl ?_;unfold Oper.wp;rw[hv];exact nx _ _ hS hn
    ·rw[if_neg hc] at h
     exact Or.inl (Oper.wp_mono (fun a' w' hh=>nx a' w' hh.1 hh.2) h)
   ·rename_i hw
    rw[if_neg hw] at h;exact nx _ _ hS h
def Region.bothB (ops:Array Oper) (n m:Nat):Bool:=
 let F:=Array.replicate ops.size false
 let L1:=Region.list F 0 n
 let L3:=Region.list (L1.setIfInBounds n true) (n+1) (m - (n+1))
 let L4:=Region.list ((L1.setIfInBounds m true).setIfInBounds n true) (n+1) (m - (n+1))
 Region.noSelect ops&&decide (n<m)&&decide (m+1<=ops.size)&&Region.readB .any ops n 0 F&&decide (Region.ready .any ops L1=[n,m]) &&
 Region.readB .any ops (m - (n+1)) (n+1) (L1.setIfInBounds n true)&&decide (Region.ready .any ops L3=[m])&&decide (Region.ready .any ops (L1.setIfInBounds m true)=[n])&&Region.readB .any ops (m - (n+1)) (n+1) ((L1.setIfInBounds m true).setIfInBounds n true) &&
 Region.seqB .any ops (ops.size - (m+1)) (m+1) (L3.setIfInBounds m true)&&Region.seqB .any ops (ops.size - (m+1)) (m+1) L4
def Region.restB (ops:Array Oper) (n:Nat):Bool:=
 Region.noSelect ops&&decide (n<=ops.size)&&Region.readB .any ops n 0 (Array.replicate ops.size false)&&Region.seqB .any ops (ops.size - n) n (Region.list (Array.replicate ops.size false) 0 n)
end
end Go
namespace Go.Proofs.YthjbodpeckebiaaGreatDoor
open Go.RowKit
theorem aX {P:Program} {ops:Array Oper} {Q:Exit->Act->World->Prop} {S:World->Prop} {o:Oper} {l:List Oper} {a:Act} {w:World} {v:Value} (hg:o.guard=none) (hc:o.calm=true) (hv:(execOp a.eval o).run P w=.ok (.value v) w) (h:aB P ops Q S l (a.put o.dst v) w):aB P ops Q S (o :: l) a w:=by
 unfold aB;rw[if_pos (by unfold Region.wanted;rw[hg]),if_pos hc];exact⟨v,hv,h⟩
theorem eA {P:Program} {ops:Array Oper} {Q:Exit->Act->World->Prop} {S:World->Prop} {o:Oper} {l:List Oper} {a:Act} {w:World} (hg:o.guard=none) (hc:o.calm=false) (h:o.wp P a w (fun a' w'=>S w'/\aB P ops Q S l a' w') Q):aB P ops Q S (o :: l) a w:=by
 unfold aB;rw[if_pos (by unfold Region.wanted;rw[hg]),if_neg (by rw[hc];decide)];exact h
theorem jh {P:Program} {ops:Array Oper} {S:World->Prop} {W:World} {g:Nat} {cs:Array Value} {t:TypeId} {rest:List Oper} {a:Act} {Q:Exit->Act->World->Prop} (ty:TypeId) (x:Operand) {y:Operand} {ty':TypeId} {pos:String} {after:Array Edge} {m:Nat} {cells:Array Value} (hi:(P.info? ty).map (·.size)=some m)
 (hx:a.eval x=.pointer (some ⟨g,0,none⟩)) (hy:a.eval y=.agg cells) (h:Rw W g cs t) (hn:cells.size=m/\cs.size=m) (h1:cells.all (·.oneCell')=true)
 (hS:S (W.setRow g cells)) (hK:aB P ops Q S rest a (W.setRow g cells)):aB P ops Q S (⟨none,.store ty x y,ty',pos,after,none⟩ :: rest) a W:=by
 obtain⟨rfl,hc⟩:=hn;refine eA rfl rfl ?_;unfold Oper.wp execOp;simp only[hx,hy,Instr.storeAt,Instr.sureAddr,Sem.run_bind,Sem.run_pure,Result.andThen_ok,run_storeVar_row W g t ty cs cells h.b hi hc h1];exact⟨hS,hK⟩
theorem j2 {P:Program} {ops:Array Oper} {Q:Exit->Act->World->Prop} {S:World->Prop} {o:Oper} {l:List Oper} {a:Act} {w:World} {f:FuncId} {args:Array Value} (hg:o.guard=none) (hc:o.calm=false) (hv:(execOp a.eval o).run P w=.ok (.enter f args) w)
 (h:Calls P f args w fun e w1=>∃v,e=.returned v/\S w1/\aB P ops Q S l (a.put o.dst v) w1):aB P ops Q S (o :: l) a w:=by
 refine eA hg hc ?_;unfold Oper.wp;rw[hv];refine Calls.mono h ?_;rintro e w1 ⟨v,rfl,hS,hK⟩;exact⟨hS,hK⟩
theorem inI {I:World->Prop} {W:World} (h:I W):∃s:Cl I,W=s.val:=⟨⟨W,h⟩,rfl⟩
theorem inS {W0 W:World} [h:Ov W0 W]:∃s:Cl (Ov W0),W=s.val:=⟨⟨W,h⟩,rfl⟩
theorem regW {P:Program} {W0:World} {id:Nat} {Q:Exit->Act->World->Prop} {a:Act} {l:List Oper} (I:World->Prop) (n:Nat) (hm:P.follows .mixedOrders=true) (hB:Region.restB l.toArray n=true) (hQ:∀c a d v w,Q (.panic c) (a.put d v) w->Q (.panic c) a w) (hI:I W0.drew)
 (h:wpQuiet P l.toArray (fun w'=>∃s:Cl I,w'=s.val) (fun a'=>aB P l.toArray Q (fun w'=>∃s:Cl I,w'=s.val) (l.drop n) a' W0.drew) (l.take n) a):(Code.region id l.toArray true).wp P Q a W0:=by
 simp only[Region.restB,ux,tY] at hB;obtain⟨⟨⟨hsel,hn⟩,hr⟩,hq⟩:=hB;have hn':n<=l.length:=by simpa using hn
 have htl:(l.take n).length=n:=by simp;omega
 have hdl:(l.drop n).length=l.toArray.size - n:=by simp
 refine wp_region_any hm (eZ (S:=fun w'=>∃s:Cl I,w'=s.val) _ _ _ _ ?_)
 have:=fj (md:=.any) (g:=(l.drop n).length) hsel hQ (w:=W0.drew) ⟨⟨_,hI⟩,rfl⟩ (l.take n) 0 (Array.replicate l.toArray.size false) a (fun j hj=>by rw[htl] at hj;rw[vb hj];simp) (by rw[htl];exact hr) (quiet_mono (fun a' h=>by
  rw[htl]
  exact nA (l.drop n) n _ a' _ ⟨⟨_,hI⟩,rfl⟩ (fun j=>by simp[uX]) (by rw[hdl];exact hq) h) _ _ h)
 have hz:n+(l.toArray.size - n)=l.toArray.size:=by
  have:l.toArray.size=l.length:=by simp
  omega
 rwa [htl,hdl,hz] at this
theorem regB {P:Program} {W0:World} {id:Nat} {Q:Exit->Act->World->Prop} {a:Act} {l:List Oper} (n m:Nat) (o om:Oper) (cs:Array Value) (t:TypeId) (f:FuncId) (args:Array Value) (T:Value->World->World->Prop) (hm:P.follows .mixedOrders=true) (hB:Region.bothB l.toArray n m=true) (ho:l[n]? = some o) (hom:l[m]? = some om) (hg:o.guard=none) (hgm:om.guard=none)
 (hap:(om.apart l.toArray o&&((l.take m).drop (n+1)).all fun x=>om.apart l.toArray x)=true)
 (hQ:∀c a d v w,Q (.panic c) (a.put d v) w->Q (.panic c) a w)
 (hal:∀ρ W,(execOp ρ om).run P W=.ok (.value (.pointer (some ⟨W.heap.size,0,none⟩))) (W.alloc (.cells cs t)))
 (hcl:∀V,(∀u [Ov u W0],Ov u V)->Calls P f args V fun e w1=>∃v,e=.returned v/\Below V.heap.size V w1/\T v V w1)
 (
  h:InC W0->
  wpQuiet P l.toArray (fun w'=>∃s:Cl (Ov W0),w'=s.val) (fun a'=>
   (∀s:Cl (Ov W0),(execOp a'.eval o).run P s.val=.ok (.enter f args) s.val)/\
   ∀v W W1 W2 g,AtA W0 W W1 W2 g cs t->T v W W1->
     wpQuiet P l.toArray (fun w'=>∃s:Cl (Ov W0),w'=s.val) (fun a''=>aB P l.toArray Q (fun w'=>∃s:Cl (Ov W0),w'=s.val) (l.drop (m+1)) a'' W2) ((l.take m).drop (n+1)) ((a'.put om.dst (.pointer (some ⟨g,0,none⟩))).put o.dst v)) (l.take n) a):
 (Code.region id l.toArray true).wp P Q a W0:=by
 simp only[Region.bothB,ux,tY] at hB;obtain⟨⟨⟨⟨⟨⟨⟨⟨⟨⟨hsel,hnm⟩,hmz⟩,hr1⟩,hy1⟩,hr2⟩,hy2⟩,hy3⟩,hr3⟩,hq1⟩,hq2⟩:=hB;rw[ux] at hap;have hmz':m+1<=l.length:=by simpa using hmz
 have hsz:l.toArray.size=l.length:=by simp
 have htl:(l.take n).length=n:=by simp;omega
 have hml:((l.take m).drop (n+1)).length=m - (n+1):=by simp;omega
 have hdl:(l.drop (m+1)).length=l.toArray.size - (m+1):=by simp
 have h0:l.toArray[n]? = some o:=by simpa using ho
 have h0m:l.toArray[m]? = some om:=by simpa using hom
 have hms:∀o∈(l.take m).drop (n+1),∀cs b,o.op≠.select cs b:=fun x hx cs b=>by
  obtain⟨j,hj⟩:=vi.1 (List.mem_of_mem_take (List.mem_of_mem_drop hx));exact Region.noSelect_spec hsel j x cs b (by simpa using hj)
 have hmid:∀j,j<((l.take m).drop (n+1)).length->((l.take m).drop (n+1))[j]? = l.toArray[n+1+j]?:=fun j hj=>by
  rw[hml] at hj;rw[uX,vb (by omega)];simp
 refine wp_region_any hm (eZ (S:=fun w'=>∃s:Cl (Ov W0),w'=s.val) _ _ _ _ ?_)
 have key:∀(W:World),Ov W0 W->dc P .any l.toArray Q (fun w'=>∃s:Cl (Ov W0),w'=s.val) ((l.take n).length+((m - (n+1))+1+(l.drop (m+1)).length+1)) (Array.replicate l.toArray.size false) a W:=by
  intro W hW;refine fj hsel hQ ⟨⟨W,hW⟩,rfl⟩ (l.take n) 0 _ a (fun j hj=>by rw[htl] at hj;rw[vb hj];simp) (by rw[htl];exact hr1) ?_;refine quiet_mono (fun a'=>?_) _ _ (h (inC W0));rintro ⟨hcall,hrest⟩;rw[htl];have hwn:∀b:Act,Region.wanted o (yielded l.toArray b.tmps)=true:=fun b=>by unfold Region.wanted;rw[hg]
  have hwm:∀b:Act,Region.wanted om (yielded l.toArray b.tmps)=true:=fun b=>by unfold Region.wanted;rw[hgm]
  obtain⟨hap1,hap2,_⟩:=Oper.apart_spec hap.1;refine⟨fun e=>(by rw[hy1] at e;cases e),fun i hi=>?_⟩;rw[hy1] at hi;have hi2:i=n\/i=m:=by simpa using hi
  rcases hi2 with rfl|rfl
  ·unfold wpOp
   simp only[h0];rw[if_pos (hwn a')];left
   unfold Oper.wp;rw[hcall ⟨W,hW⟩];refine Calls.mono (hcl W fun u j=>⟨j.b.trans (hW.b.mono j.b.size)⟩) ?_;rintro e w1 ⟨v,rfl,hb,hT⟩;have hW1:Ov W0 w1:=⟨hW.b.trans (hb.mono hW.b.size)⟩;refine⟨⟨⟨w1,hW1⟩,rfl⟩,?_⟩;have hA:Below w1.heap.size w1 (w1.alloc (.cells cs t)):=(tU _ _).alloc (nR _) _;have hW2:Ov W0 (w1.alloc (.cells cs t)):=⟨hW1.b.alloc hW1.b.size _⟩;have H2:=hrest v W w1 _ w1.heap.size (atA hW2 hW ⟨ac.new _ _ _⟩ (by simp) hW1.b.size hA (Or.inr (nR _))) hT;rw[Act.put_comm a' _ _ hap2] at H2;have H3:=cW (x:=om) _ _ _ hap.2 hms H2;rw[uY,<-hml];refine fj hsel hQ ⟨⟨w1,hW1⟩,rfl⟩ _ (i+1) _ _ hmid (by rw[hml];exact hr2) ?_;refine quiet_mono (fun a''=>?_) _ _ H3;intro hfin;rw[hml,Nat.add_comm 1];refine⟨fun e=>(by rw[hy2] at e;cases e),fun i2 hi2=>?_⟩;rw[hy2] at hi2;have hi3:i2=m:=by simpa using hi2
   subst hi3;unfold wpOp;simp only[h0m];rw[if_pos (hwm _)];left
   unfold Oper.wp;rw[hal];exact⟨⟨⟨_,hW2⟩,rfl⟩,nA (l.drop (i2+1)) (i2+1) _ _ _ ⟨⟨_,hW2⟩,rfl⟩ (fun j=>by simp[uX]) (by rw[hdl];exact hq1) hfin⟩
  ·unfold wpOp
   simp only[h0m];rw[if_pos (hwm a')];left
   unfold Oper.wp;rw[hal];have hW1:Ov W0 (W.alloc (.cells cs t)):=⟨hW.b.alloc hW.b.size _⟩;refine⟨⟨⟨_,hW1⟩,rfl⟩,?_⟩;rw[Nat.add_right_comm];refine⟨fun e=>(by rw[hy3] at e;cases e),fun i2 hi2=>?_⟩;rw[hy3] at hi2;have hi3:i2=n:=by simpa using hi2
   subst hi3;unfold wpOp;simp only[h0];rw[if_pos (hwn _)];left
   unfold Oper.wp;rw[execOp_put o (fun cs b=>Region.noSelect_spec hsel i2 o cs b h0) a' om.dst _ hap1,hcall ⟨_,hW1⟩];refine Calls.mono (hcl _ fun u j=>⟨j.b.trans (hW1.b.mono j.b.size)⟩) ?_;rintro e w1 ⟨v,rfl,hb,hT⟩;have hW2:Ov W0 w1:=⟨hW1.b.trans (hb.mono hW1.b.size)⟩;refine⟨⟨⟨w1,hW2⟩,rfl⟩,?_⟩;have H2:=hrest v _ w1 w1 W.heap.size (atA hW2 hW1 ⟨(ac.new W cs t).call hb⟩ (uD (by simp) hb.size) hW.b.size (tU _ _) (Or.inl (by simp))) hT;rw[<-hml];refine fj hsel hQ ⟨⟨w1,hW2⟩,rfl⟩ _ (i2+1) _ _ hmid (by rw[hml];exact hr3) ?_;refine quiet_mono (fun a''=>?_) _ _ H2;intro hfin;rw[hml];exact nA (l.drop (i+1)) (i+1) _ _ _ ⟨⟨_,hW2⟩,rfl⟩ (fun j=>by simp[uX]) (by rw[hdl];exact hq2) hfin
 have K:=key W0.drew inferInstance
 have hz:(l.take n).length+((m - (n+1))+1+(l.drop (m+1)).length+1)=l.toArray.size:=by
  rw[htl,hdl];omega
 rwa [hz] at K
end Go.Proofs.YthjbodpeckebiaaGreatDoor
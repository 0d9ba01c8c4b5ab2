/- Texts packed for one claim, 22 of 48: SeqW. -/
import Derived.Test.YthjbodpeckebiaaGreatDoorRdnQ2
import Derived.RangeFuncBox
import Derived.RangeFuncLeaves
import Derived.RangeFuncFrom
import Derived.Shelf.Abstract
import Derived.OwnWalkIn
import Derived.TacticsInMore
import Derived.LoopNIn
import Derived.LoopIn
import Derived.RangeFuncKeeps
import Derived.RangeFuncBound
import Derived.RangeFuncCalls
set_option linter.unusedSimpArgs false
set_option linter.unusedVariables false
-- SeqW
namespace Go.Proofs.YthjbodpeckebiaaGreatDoor
open Go.RowKit
variable {F:Fence} {n:Nat} {P:Program}
def qp (T:TypeId) (B C:Nat) (W:World) (k:Nat):Prop:=(B<=k/\∃cs fz,W.heap[k]? = some (.cells cs T fz))\/(C<=k/\∃o:Obj,W.heap[k]? = some o/\o.isCells=false)
def az {β:Type} (T:TypeId) (B C:Nat) (I:β->World->Prop):Prop:=∀s W W',I s W->aa (qp T B C W) W W'->I s W'
theorem bq (W:World) (l:Nat) (o':Obj):aa (fun k=>k=l) W (W.putObj l o'):=
 ⟨rfl,rfl,rfl,by simp,fun k _ hk=>World.putObj_heap_other (fun e=>hk (by rw[e]))⟩
theorem az.put {β:Type} {T:TypeId} {B C:Nat} {I:β->World->Prop} (h:az T B C I) {s:β} {W:World} {l:Nat} {o:Obj} (o':Obj) (hs:I s W) (hC:C<=l) (hl:W.heap[l]? = some o) (ho:o.isCells=false):I s (W.putObj l o'):=
 h s W _ hs ((bq W l o').mono (fun k _ e=>by subst e;exact .inr ⟨hC,o,hl,ho⟩))
theorem az.alloc {β:Type} {T:TypeId} {B C:Nat} {I:β->World->Prop} (h:az T B C I) {s:β} {W:World} (o:Obj) (hs:I s W):I s (W.alloc o):=
 h s W _ hs ((aa.refl _ W).alloc o)
theorem az.mono {β:Type} {T:TypeId} {B C B' C':Nat} {I:β->World->Prop} (h:az T B C I) (hB:B<=B') (hC:C<=C'):az T B' C' I:=
 fun s W W' hs t=>h s W W' hs (t.mono (fun k _ hk=>hk.elim (fun h=>.inl ⟨nT hB h.1,h.2⟩) (fun h=>.inr ⟨nT hC h.1,h.2⟩)))
theorem az.and {β:Type} {T:TypeId} {B C:Nat} {I I':β->World->Prop} (h:az T B C I) (h':az T B C I'):az T B C (fun s W=>I s W/\I' s W):=
 fun s W W' hs t=>⟨h s W W' hs.1 t,h' s W W' hs.2 t⟩
theorem az.below {β:Type} {T:TypeId} {B C n₀:Nat} {w₀:World} (hn:n₀<=w₀.heap.size) (hB:n₀<=B) (hC:n₀<=C):az T B C (fun(_:β) W=>Below n₀ w₀ W):=
 fun s W W' hs t=>hs.trans (t.below (B:=n₀) (fun k _ hk=>hk.elim (fun h=>nT hB h.1) (fun h=>nT hC h.1)) (nT hn hs.size))
def eF (X:Nat->Prop) (T:TypeId) (N Z:Nat) (A B:World):Prop:=aa (fun k=>(X k/\∃cs ty fz,A.heap[k]? = some (.cells cs ty fz))\/(N<=k/\∃cs fz,A.heap[k]? = some (.cells cs T fz))\/(k<Z/\∃o:Obj,A.heap[k]? = some o/\o.isCells=false)) A B
theorem eF.trans {X:Nat->Prop} {T:TypeId} {N Z:Nat} {A B C:World} (h:eF X T N Z A B) (k:eF X T N Z B C):eF X T N Z A C:=by
 refine⟨k.os.trans h.os,k.tape.trans h.tape,k.output.trans h.output,nT h.size k.size,fun i hi hp=>?_⟩;have e:=h.block i hi hp;refine(k.block i (uD hi h.size) ?_).trans e;rintro (⟨hx,cs,ty,fz,hc⟩|⟨hn,cs,fz,hc⟩|⟨hz,o,ho,hc⟩)
 ·exact hp (.inl ⟨hx,cs,ty,fz,e▸hc⟩)
 ·exact hp (.inr (.inl ⟨hn,cs,fz,e▸hc⟩))
 ·exact hp (.inr (.inr ⟨hz,o,e▸ho,hc⟩))
theorem eF.put {X:Nat->Prop} {T:TypeId} {N Z l:Nat} (hl:l<Z) (W:World) (o o':Obj) (h:W.heap[l]? = some o) (hc:o.isCells=false) (_:o.isWalk=false):eF X T N Z W (W.putObj l o'):=
 (bq W l o').mono (fun k _ e=>by subst e;exact .inr (.inr ⟨hl,o,h,hc⟩))
theorem eF.keep {X:Nat->Prop} {T:TypeId} {N Z:Nat} {A B:World} (h:eF X T N Z A B) {k:Nat} {cs:Array Value} {ty:TypeId} {fz:Nat×Nat} (hk:A.heap[k]? = some (.cells cs ty fz)) (hX:¬X k) (hT:ty≠T\/k<N):B.heap[k]? = some (.cells cs ty fz):=by
 refine(h.block k (ua.1 hk).1 ?_).trans hk;rintro (⟨hx,_⟩|⟨hn,cs',fz',hc⟩|⟨_,o,ho,hc⟩)
 ·exact hX hx
 ·rw[hk] at hc
  injection hc with hc
  injection hc with _ ht _
  rcases hT with h|h
  ·exact h ht
  ·omega
 ·rw[hk] at ho
  injection ho with ho
  rw[<-ho] at hc;cases hc
theorem eF.mono {X:Nat->Prop} {T:TypeId} {N Z Z':Nat} {A B:World} (h:eF X T N Z A B) (hz:Z<=Z'):eF X T N Z' A B:=
 aa.mono h (fun k _ hk=>hk.elim .inl (fun hk=>hk.elim (fun h=>.inr (.inl h)) (fun h=>.inr (.inr ⟨uD h.1 hz,h.2⟩))))
def bA (B:Nat) (W W':World):Prop:=W.heap.size<=W'.heap.size/\∀k (o:Obj),B<=k->W.heap[k]? = some o->o.isCells=false->W'.heap[k]? = some o
theorem bA.refl (B:Nat) (W:World):bA B W W:=⟨nR _,fun _ _ _ h _=>h⟩
theorem bA.of {W W':World} (h:KeepsOthers W W') (B:Nat):bA B W W':=⟨h.size,fun k o _ hk ho=>h.same k o hk ho⟩
theorem bA.trans {B:Nat} {U V W:World} (h:bA B U V) (k:bA B V W):bA B U W:=⟨nT h.1 k.1,fun i o hi h1 h2=>k.2 i o hi (h.2 i o hi h1 h2) h2⟩
theorem eF.others {X:Nat->Prop} {T:TypeId} {N Z:Nat} {A B:World} (h:eF X T N Z A B):bA Z A B:=
 ⟨h.size,fun k o hz hk ho=>(h.block k (ua.1 hk).1 (by
  rintro (⟨_,cs,ty,fz,hc⟩|⟨_,cs,fz,hc⟩|⟨hlt,_⟩)
  ·rw[hk] at hc
   injection hc with hc
   rw[hc] at ho;cases ho
  ·rw[hk] at hc
   injection hc with hc
   rw[hc] at ho;cases ho
  ·omega)).trans hk⟩
def q9 {α:Type} (B:Nat) (Kp:World->World->Prop) (I:List α->World->Prop) (Ix:Code->List α->World->Prop) (xs:List α) (W:World):Exit->Act->World->Prop
 | .normal,_,W'=>bA B W W'/\Kp W W'/\I xs W'
 | .ret,_,W'=>bA B W W'/\Kp W W'/\Ix .ret xs W'
 | .exit id,_,W'=>bA B W W'/\Kp W W'/\Ix (.exit id) xs W'
 | .goto t,_,W'=>bA B W W'/\Kp W W'/\Ix (.goto t) xs W'
 | _,_,_=>False
def rR {α:Type} (F:Fence) (n:Nat) (P:Program) (g:Nat) (lb:Array Value) (encs:α->Array Value) (Kp:World->World->Prop) (T:TypeId) (B:Nat) (S Sp:List α->Prop) (N:Nat) (w:World):Prop:=
 ∀(l:Nat) (J Jx:List α->World->Prop) (W:World),Below w.heap.size w W->w.heap.size+2<=W.heap.size->az T B W.heap.size J->az T B W.heap.size Jx->
   (
    ∀pre x W1,J pre W1->pre.length<N->YieldAt F (n - 1) P l (encs x) W1 fun e W'=>
    (e=.returned (.bool true)/\J (pre++[x]) W'/\Kp W1 W')\/(e=.returned (.bool false)/\Jx (pre++[x]) W'/\Kp W1 W'))->
   J [] W->
   CallsIn F n P g (#[.func (.yield l) #[] #[]]++lb) W fun e W'=>(∃v,e=.returned v)/\((∃xs,S xs/\J xs W')\/(∃pre,Sp pre/\Jx pre W'))
theorem bz {α:Type} {g:Operand} {ps:Array Tmp} {assign body:Code} {Q:Exit->Act->World->Prop} {a:Act} {w:World}
 (hro:F.round=none) (h1:1<=n) {gf:Nat} {lb:Array Value} (hg:a.eval g=.func (.func gf) #[] lb) (hFg:F.fn gf) (eg:∀args w,(callFunc gf args).run P w=.ok (.enter gf args) w)
 {encs:α->Array Value} {Kp:World->World->Prop} {T:TypeId} {B:Nat} {S Sp:List α->Prop} {N:Nat} {w0:World} (hseq:rR F (n - 1) P gf lb encs Kp T B S Sp N w0)
 (hKt:∀{A B C:World},Kp A B->Kp B C->Kp A C) (hKb:∀(W:World) (o o':Obj),W.heap[w.heap.size+1]? = some o->o.isCells=false->o.isWalk=false->Kp W (W.putObj (w.heap.size+1) o')) (hb0:Below w0.heap.size w0 w) (hps:∀x,(encs x).size=ps.size)
 (I:List α->World->Prop) (Ix:Code->List α->World->Prop) (hI:az T B w.heap.size I) (hIx:∀c,az T B w.heap.size (Ix c)) (h0:I [] w) (a₁:α->Act)
 (
  hassign:∀(l:Nat) (x:α) (W:World) (K:Act->World->Prop),K (a₁ x) W->
  assign.wpIn (F.inRound l) (n - 1 - 1) P (Exit.then K (fun _ _ _=>False)) { tmps:=(ps.zip (encs x)).foldl (fun t (p,v)=>t.setIfInBounds p v) a.tmps,defers:=[] } W)
 (hbody:∀(l:Nat) (pre:List α) (x:α) (W:World),I pre W->pre.length<N->body.wpIn (F.inRound l) (n - 1 - 1) P (q9 w.heap.size Kp I Ix (pre++[x]) W) (a₁ x) W)
 (hdone:∀(D:Nat) (xs:List α) (W:World),w.heap.size<=D->S xs->I xs W->W.heap[D]? = some (.deferred (some []))->Q .normal { a with defers:={ target:=.collected D,args:=#[] } :: a.defers } W)
 (hstop:∀(D:Nat) (c:Code) (pre:List α) (W:World),w.heap.size<=D->Sp pre->Ix c pre W->W.heap[D]? = some (.deferred (some []))->c.wpIn F n P Q { a with defers:={ target:=.collected D,args:=#[] } :: a.defers } W):
 (Code.rangeFunc g ps assign body).wpIn F n P Q a w:=by
 refine wpIn_rangeFunc ?_;intro fn hfn;rw[hro]
 -- the loop's record, at each of its states
 obtain⟨R,hR⟩:∃R:LoopState->Option Code->Loop,R=fun st pe=>{ state:=st,pending:=pe,fn,tmps:=a.tmps,params:=ps,assign,body,defers:=w.heap.size }:=⟨_,rfl⟩;have hd:∀st pe,(R st pe).defers=w.heap.size:=fun _ _=>by rw[hR]
 obtain⟨V0,hV0⟩:∃V,V=(w.alloc (.deferred (some []))).alloc (.loop (R .ready none)):=⟨_,rfl⟩;have hsz:V0.heap.size=w.heap.size+2:=by rw[hV0];simp
 have kl:V0.heap[w.heap.size+1]? = some (.loop (R .ready none)):=by
  rw[hV0];have h:=heap_alloc_new (w.alloc (.deferred (some []))) (.loop (R .ready none));rwa [World.size_alloc] at h
 have kd:V0.heap[w.heap.size]? = some (.deferred (some [])):=by
  rw[hV0];exact(Below.heap_alloc _ _ _ (by simp)).trans (heap_alloc_new w _)
 have ki:I [] V0:=by rw[hV0];exact hI.alloc _ (hI.alloc _ h0)
 have kb:Below w0.heap.size w0 V0:=by
  rw[hV0];exact(hb0.alloc hb0.size _).alloc (by have:=hb0.size;simp;omega) _
 refine⟨w.heap.size+1,[{ target:=.collected w.heap.size,args:=#[] }],V0,{ target:=.fn (.func gf) lb,args:=#[.func (.yield (w.heap.size+1)) #[] #[]] },V0,gf,
  #[.func (.yield (w.heap.size+1)) #[] #[]]++lb,V0,?enter,?res,?leads,?inv,fun _=>h1,?call⟩
 case enter=>rw[hV0,hR];exact run_enterLoop_outer _ _ _ _ _
 case res=>
  simp only[resolve,hg];simp[go_sem]
 case leads=>
  intro f' hf';simp[Target.leads] at hf';subst hf';exact hFg
 case inv=>simp[invoke,go_sem,eg]
 case call=>
  -- what the iterator may write is neither the record nor the row of deferred calls
  have far:∀{U V:World} {k:Nat} {o:Obj},aa (qp T B V0.heap.size U) U V->U.heap[k]? = some o->o.isCells=false->k<V0.heap.size->V.heap[k]? = some o:=fun {U V k o} t hk ho hlt=>by
   refine(t.block k (ua.1 hk).1 ?_).trans hk;rintro (⟨_,cs,fz,e⟩|⟨h,_⟩)
   ·rw[hk] at e
    injection e with e
    rw[e] at ho;cases ho
   ·omega
  have l0:w.heap.size<V0.heap.size:=by omega
  have l1:w.heap.size+1<V0.heap.size:=by omega
  have up:=hI.mono (nR B) (show w.heap.size<=V0.heap.size by omega);have upx:=fun c=>(hIx c).mono (nR B) (show w.heap.size<=V0.heap.size by omega)
  refine(hseq (w.heap.size+1) (fun pre W=>I pre W/\W.heap[w.heap.size+1]? = some (.loop (R .ready none))/\W.heap[w.heap.size]? = some (.deferred (some [])))
   (fun pre W=>∃c,Ix c pre W/\W.heap[w.heap.size+1]? = some (.loop (R .done (some c)))/\W.heap[w.heap.size]? = some (.deferred (some [])))
   V0 kb (by have:=hb0.size;omega) (fun s U V hs t=>⟨up s U V hs.1 t,far t hs.2.1 rfl l1,far t hs.2.2 rfl l0⟩) (fun s U V hs t=>by obtain⟨c,h1,h2,h3⟩:=hs;exact⟨c,upx c s U V h1 t,far t h2 rfl l1,far t h3 rfl l0⟩) ?round ⟨ki,kl,kd⟩).mono ?behind
  case round=>
   rintro pre x W ⟨hi,hl,hk⟩ hlen;have hlt:w.heap.size+1<W.heap.size:=(ua.1 hl).1;have hy:=run_yield (P:=P) (args:=encs x) hl (by rw[hR];exact hps x);rw[hR] at hy;refine⟨fn,_,assign,body,hy,roundIn_of_wpIn hfn (hassign _ x W _ ⟨_,run_beginRound hl (by rw[hR]),?_⟩)⟩;obtain⟨U,hU⟩:∃U,U=W.putObj (w.heap.size+1) (.loop { R .ready none with state:=.busy }):=⟨_,rfl⟩;rw[<-hU];have ul:U.heap[w.heap.size+1]? = some (.loop { R .ready none with state:=.busy }):=by rw[hU];exact World.putObj_heap_same hlt
   have ud:U.heap[w.heap.size]? = some (.deferred (some [])):=by rw[hU];exact(World.putObj_heap_other (by omega)).trans hk
   have uk:Kp W U:=by rw[hU];exact hKb _ _ _ hl rfl rfl
   have ui:I pre U:=by rw[hU];exact hI.put _ hi (by omega) hl rfl
   refine wpIn_mono (hbody _ pre x _ ui hlen) ?_
   -- a round is over: its record says how
   have over:∀(jump:Option Code) (V:World),bA w.heap.size U V->∃V',V'=V.putObj (w.heap.size+1) (.loop (R (if jump.isNone then .ready else .done) jump))/\(Instr.endRound (w.heap.size+1) jump).run P V=.ok (.bool jump.isNone) V'/\
    V.heap[w.heap.size+1]? = some (.loop { R .ready none with state:=.busy })/\V'.heap[w.heap.size+1]? = some (.loop (R (if jump.isNone then .ready else .done) jump))/\V'.heap[w.heap.size]? = some (.deferred (some [])):=fun jump V hkV=>by
    have vl:=hkV.2 _ _ (uN _) ul rfl;have he:=run_endRound (P:=P) jump vl;refine⟨_,rfl,?_,vl,World.putObj_heap_same (ua.1 vl).1,(World.putObj_heap_other (by omega)).trans (hkV.2 _ _ (nR _) ud rfl)⟩;rw[hR] at he ⊢;exact he
   rintro e a3 V hp;cases e with
   | normal=>
     obtain⟨hk3,hkp3,hi3⟩:=hp;obtain⟨V',hV',hr,vl,vl',vd'⟩:=over none V hk3;refine⟨_,V',hr,.inl ⟨rfl,⟨?_,vl',vd'⟩,hKt (hKt uk hkp3) ?_⟩⟩
     ·rw[hV'];exact hI.put _ hi3 (by omega) vl rfl
     ·rw[hV'];exact hKb _ _ _ vl rfl rfl
   | ret=>
     obtain⟨hk3,hkp3,hi3⟩:=hp;obtain⟨V',hV',hr,vl,vl',vd'⟩:=over (some .ret) V hk3;exact⟨_,V',hr,.inr ⟨rfl,⟨.ret,by rw[hV'];exact(hIx _).put _ hi3 (by omega) vl rfl,vl',vd'⟩,hKt (hKt uk hkp3) (by rw[hV'];exact hKb _ _ _ vl rfl rfl)⟩⟩
   | exit id=>
     obtain⟨hk3,hkp3,hi3⟩:=hp;obtain⟨V',hV',hr,vl,vl',vd'⟩:=over (some (.exit id)) V hk3;exact⟨_,V',hr,.inr ⟨rfl,⟨.exit id,by rw[hV'];exact(hIx _).put _ hi3 (by omega) vl rfl,vl',vd'⟩,hKt (hKt uk hkp3) (by rw[hV'];exact hKb _ _ _ vl rfl rfl)⟩⟩
   | goto t=>
     obtain⟨hk3,hkp3,hi3⟩:=hp;obtain⟨V',hV',hr,vl,vl',vd'⟩:=over (some (.goto t)) V hk3;exact⟨_,V',hr,.inr ⟨rfl,⟨.goto t,by rw[hV'];exact(hIx _).put _ hi3 (by omega) vl rfl,vl',vd'⟩,hKt (hKt uk hkp3) (by rw[hV'];exact hKb _ _ _ vl rfl rfl)⟩⟩
   | panic ch=>exact hp.elim
   | outgrown=>exact hp.elim
  case behind=>
   rintro e V ⟨⟨v,rfl⟩,(⟨xs,hS,hi,hl,hk⟩|⟨pre,hSp,c,hi,hl,hk⟩)⟩
   ·exact⟨none,_,by have h:=run_endLoop (P:=P) hl (by rw[hR];simp);rw[hR] at h;exact h,hdone _ xs _ (nR _) hS (hI.put _ hi (by omega) hl rfl) ((World.putObj_heap_other (by omega)).trans hk)⟩
   ·exact⟨some c,_,by have h:=run_endLoop (P:=P) hl (by rw[hR];simp);rw[hR] at h;exact h,hstop _ c pre _ (nR _) hSp ((hIx c).put _ hi (by omega) hl rfl) ((World.putObj_heap_other (by omega)).trans hk)⟩
end Go.Proofs.YthjbodpeckebiaaGreatDoor
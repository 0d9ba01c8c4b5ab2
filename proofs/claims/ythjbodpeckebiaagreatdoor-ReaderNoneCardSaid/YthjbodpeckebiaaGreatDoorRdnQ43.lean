/- Texts packed for one claim, 43 of 48: Prt. -/
import Derived.Test.YthjbodpeckebiaaGreatDoorRdnQ42
import Derived.Test.YthjbodpeckebiaaGreatDoorRdnQ10
import Derived.Test.YthjbodpeckebiaaGreatDoorRdnQ24
import Derived.Shelf.RegionOpen
set_option maxRecDepth 100000
set_option maxHeartbeats 16000000
set_option linter.unusedSimpArgs false
set_option linter.unusedVariables false
-- Prt
namespace Go.Proofs.YthjbodpeckebiaaGreatDoor
open Go.RowKit Go.Shelf
attribute [local go_sem] Oper.semAt_some
theorem jl {F:Fence} {n:Nat} {P:Program} {Q:Exit->Act->World->Prop} {c:Code} (I:Nat->Act->World->Prop) (hs:∀m a w,I (m+1) a w->c.wpIn F n P (Exit.then (I m) Q) a w) (hz:∀a w,¬I 0 a w) {m:Nat} {a:Act} {w:World} (h:I m a w):(Code.loop c).wpIn F n P Q a w:=by
 refine wpIn_loop_rounds m ?_
 have key:∀m a w,I m a w->Code.roundsIn F n P c Q m a w:=by
  intro m;induction m with
  | zero=>intro a w h;exact(hz a w h).elim
  | succ m ih=>
    intro a w h;rw[roundsIn_succ];refine wpIn_mono (hs m a w h) ?_;intro e a' w' hp;cases e with
    | normal=>exact ih a' w' hp
    | _=>exact hp
 exact key m a w h
theorem pN {F:Fence} (hd:F.depth=none) (k:Nat):F.room k:=fun d h=>by rw[hd] at h;cases h
theorem pO {F:Fence} (hd:F.depth=none) {m m':Nat} {P:Program} {l:Nat} {f:FuncId} {tmps:Array Value} {assign body:Code} {w:World} {R:Ending->World->Prop}
 (h:RoundIn F m P l f tmps assign body w R):RoundIn F m' P l f tmps assign body w R:=⟨h.1,fun c cs _=>h.2 c cs (pN hd _)⟩
def q8 (D:Nat):Deferred:={ target:=.collected D,args:=#[] }
theorem cU {F:Fence} {n:Nat} {P:Program} {fn:Func} {tmps:Array Value} {R:Ending->World->Prop} (hres:∀w,(results fn tmps).run P w=.ok (.tuple #[]) w):∀(Ds:List Nat) (w:World),Ds.Nodup->(∀D∈Ds,w.heap[D]? = some (.deferred (some [])))->(∀w',aa (fun k=>k∈Ds) w w'->R (.returned (.tuple #[])) w')->
 LeavesInM F n P fn tmps R (Ds.map q8) .returning w
 | [],w,_,_,h=>⟨_,hres w,h w (aa.refl _ _)⟩
 | D :: Ds,w,hn,hd,h=>by
   have h1:=hd D (by simp);refine⟨by simp,.inl ⟨D,_,rfl,run_takeDeferred h1,?_⟩⟩;have hnd:=List.nodup_cons.1 hn;refine cU hres Ds _ hnd.2 (fun E hE=>?_) (fun w' t=>h w' ?_)
   ·have hne:E≠D:=fun e=>hnd.1 (e▸hE)
    have h2:=hd E (by simp[hE]);exact((bq w D _).block E (ua.1 h2).1 (fun e=>hne e)).trans h2
   ·exact((bq w D _).mono (fun k _ e=>by rw[e];simp)).trans (t.mono (fun k _ hk=>by simp[hk]))
structure tc (W:World) (b g0 y:Nat) (cur:Array Value):Prop where
 r:ac W b cur 9
 f:ac W g0 #[.func (.yield y) #[] #[]] 59
theorem gd:∀(l a:List UInt8),(bC a l).length<=l.length+1
 | [],a=>by simp[bC]
 | c :: l,a=>by
   rw[bC];split
   ·have:=gd l []
    simp;omega
   ·have:=gd l (a++[c])
    simp;omega
theorem po (s:ByteArray):(bf s).length<=s.size+1:=by
 unfold bf;rw[List.length_map];have h1:=gd s.data.toList [];have h2:s.data.toList.length=s.size:=by simp
 omega
def gQ (vals:List ByteArray):Nat:=(vals.map fun s=>s.size+1).sum
theorem jv:∀vals:List ByteArray,(vals.flatMap bf).length<=gQ vals
 | []=>tX _
 | s :: l=>by
   have h1:=jv l;have h2:=po s;have e:gQ (s :: l)=(s.size+1)+gQ l:=by unfold gQ;simp
   rw[List.flatMap_cons,ue,e];omega
theorem oz (vals:List ByteArray) (k:Nat) (h:k<vals.length):gQ (vals.take k)+(vals[k].size+1)<=gQ vals:=by
 have e:vals=vals.take k++vals[k] :: vals.drop (k+1):=by rw[<-un h,vc]
 unfold gQ;conv=>rhs;rw[e]
 rw[uw,List.sum_append,List.map_cons,List.sum_cons];omega
theorem oO (vals:List ByteArray) (k:Nat) (h:k<vals.length):(vals.take (k+1)).flatMap bf=(vals.take k).flatMap bf++bf vals[k]:=by
 rw[uj h,List.flatMap_append];simp
def bI (x:Tx):Tx:=⟨bT x.1,nT (eX _) x.2⟩
def PtI (J:List Tx->World->Prop) (pre:List Tx) (b g0 y:Nat) (cur:Array Value) (Ds:List Nat) (C:Nat) (pre2:List Tx) (V:World):Prop:=
 J (pre++pre2.map bI) V/\tc V b g0 y cur/\(∀D∈Ds,V.heap[D]? = some (.deferred (some [])))/\C<=V.heap.size
def PtX (Jx:List Tx->World->Prop) (pre:List Tx) (Ds:List Nat) (c:Code) (pre2:List Tx) (V:World):Prop:=
 c=.ret/\Jx (pre++pre2.map bI) V/\(∀D∈Ds,V.heap[D]? = some (.deferred (some [])))
theorem jQ {T:TypeId} {B C:Nat} {U V:World} {D:Nat} (t:aa (qp T B C U) U V) (h:U.heap[D]? = some (.deferred (some []))) (hD:D<C):V.heap[D]? = some (.deferred (some [])):=by
 refine(t.block D (ua.1 h).1 ?_).trans h;rintro (⟨_,cs,fz,e⟩|⟨e,_⟩)
 ·rw[h] at e
  cases e
 ·omega
theorem df {T ty:TypeId} {B C:Nat} {U V:World} {k:Nat} {cs:Array Value} (t:aa (qp T B C U) U V) (h:ac U k cs ty) (hT:ty≠T\/k<B):ac V k cs ty:=by
 refine h.touch t ?_;rintro (⟨hb,cs',fz,e⟩|⟨_,o,e,ho⟩)
 ·rcases hT with hT|hT
  ·have h':U.heap[k]? = some (.cells cs ty (0,0)):=h
   rw[h'] at e;injection e with e
   injection e with _ e _
   exact hT e
  ·omega
 ·have h':U.heap[k]? = some (.cells cs ty (0,0)):=h
  rw[h'] at e;injection e with e
  rw[<-e] at ho;cases ho
theorem mY {J:List Tx->World->Prop} {pre:List Tx} {b g0 y B C0 C:Nat} {cur:Array Value} {Ds:List Nat} (hJ:az 9 B C0 J) (hC:C0<=C) (hb:b<B) (hD:∀D∈Ds,D<C):az 9 B C (PtI J pre b g0 y cur Ds C):=by
 rintro pre2 U V ⟨h1,h2,h3,h4⟩ t;exact⟨hJ.mono (nR _) hC _ U V h1 t,⟨df t h2.r (Or.inr hb),df t h2.f (Or.inl (by decide))⟩,fun D hd=>jQ t (h3 D hd) (hD D hd),nT h4 t.size⟩
theorem mZ {Jx:List Tx->World->Prop} {pre:List Tx} {B C0 C:Nat} {Ds:List Nat} (hJ:az 9 B C0 Jx) (hC:C0<=C) (hD:∀D∈Ds,D<C) (c:Code):az 9 B C (PtX Jx pre Ds c):=by
 rintro pre2 U V ⟨h1,h2,h3⟩ t;exact⟨h1,hJ.mono (nR _) hC _ U V h2 t,fun D hd=>jQ t (h3 D hd) (hD D hd)⟩
theorem bA.mono {B B':Nat} {W W':World} (h:bA B W W') (hB:B<=B'):bA B' W W':=⟨h.1,fun k o hk=>h.2 k o (nT hB hk)⟩
theorem qV {X:Nat->Prop} {T:TypeId} {N Z:Nat} {A B:World} (h:eF X T N Z A.drew B):eF X T N Z A B:=⟨h.os,h.tape,h.output,h.size,h.block⟩
theorem pq {s:ByteArray} {ys:List Tx} (h:ys.map gZ=bC [] s.data.toList):ys.map (fun x=>(bI x).1)=bf s:=by
 unfold bf;rw[<-h,List.map_map];rfl
theorem pr (F:Fence) (n:Nat) (hw:∀f args (W:World) R M,Calls Tryz.prog f args W R->CallsIn F M Tryz.prog f args W R) (hfn:∀f,F.fn f) (hro:F.round=none) (hdp:F.depth=none) (hn:6<=n) (y B b gv NT Z:Nat) (KX:Nat->Prop) (vals:List ByteArray) (cap:Nat) (cur:Array Value) (hvs:∀s∈vals,s.size<=1000000) (hvl:vals.length<=1000000) (J Jx:List Tx->World->Prop)
 (
  hY:∀pre x W,J pre W->pre.length<gQ vals+1->YieldAt F (n - 1) Tryz.prog y #[.string x.1] W fun e W'=>
  (e=.returned (.bool true)/\J (pre++[x]) W'/\eF KX 222 NT Z W W')\/(e=.returned (.bool false)/\Jx (pre++[x]) W'/\eF KX 222 NT Z W W'))
 (W:World) (hJ:az 9 B W.heap.size J) (hJx:az 9 B W.heap.size Jx) (hB:B<=W.heap.size) (hbB:b<B) (hZ:Z<=W.heap.size) (hbX:¬KX b) (hXW:∀k,KX k->k<W.heap.size)
 (kv:ac W gv #[.slice (some ⟨b,0,none⟩) vals.length cap] 22) (kb:ac W b cur 9) (hcur:∀k (h:k<vals.length),cur[k]? = some (.string vals[k])) (h0:J [] W):
 CallsIn F n Tryz.prog 187 #[.func (.yield y) #[] #[],.pointer (some ⟨gv,0,none⟩)] W fun e W'=>(∃v,e=.returned v)/\
  ((∃ys:List Tx,ys.map (·.1)=vals.flatMap bf/\J ys W')\/(∃pre:List Tx,(∃rest,pre.map (·.1)++rest=vals.flatMap bf)/\Jx pre W')):=by
 have HW:=lH hw;have HFN:=lH hfn;have HY:=lH hY;have HST:=lH hJ;have HSX:=lH hJx;have HJ0:=lH (hJ.alloc (.cells #[.func (.yield y) #[] #[]] 59) h0);have HV0:Hid (tc (W.alloc (.cells #[.func (.yield y) #[] #[]] 59)) b W.heap.size y cur):=⟨kb.alloc _,ac.new _ _ _⟩;have kv2:=(kv.alloc (.cells #[.func (.yield y) #[] #[]] 59)).cell 0;simp at kv2;have HCUR:=lH hcur;clear hw hfn hY hJ hJx h0 kv kb hcur;refine callsIn_of_wp_marks Tryz.func187 rfl (HFN.out _) ?_ hro;simp only[Tryz.ntmps187,List.size_toArray,t4,uT,Nat.reduceAdd,Nat.reduceSub,Array.replicate_succ,Array.replicate_zero,List.push_toArray,List.append_toArray,vm,uS];gi_wp2_with fail
 have HVS:=lH hvs;clear hvs;have hls1:(⟨#[44]⟩:ByteArray).size=1:=rfl
 refine jl (fun m a wr=>∃(k:Nat) (Ds:List Nat) (pre:List Tx) (u4 u5 u9 u10 u11 u12 u13 u14 u15 u16 u17 u18 u19 u20:Value),m=vals.length+1 - k/\k<=vals.length/\
  a={ tmps:=#[.func (.yield y) #[] #[],.pointer (some ⟨gv,0,none⟩),.pointer (some ⟨W.heap.size,0,none⟩),undef,u4,u5,.slice (some ⟨b,0,none⟩) vals.length cap,.int .i64 (vals.length:Int),.int .i64 (k:Int),u9,u10,u11,u12,u13,u14,u15,u16,u17,u18,u19,u20],defers:=Ds.map q8 }/\
  pre.map (·.1)=(vals.take k).flatMap bf/\J pre wr/\tc wr b W.heap.size y cur/\Ds.Nodup/\(∀D∈Ds,W.heap.size<=D/\wr.heap[D]? = some (.deferred (some [])))/\W.heap.size<=wr.heap.size) ?step ?zero
  ⟨0,[],[],undef,undef,undef,undef,undef,undef,undef,undef,undef,undef,undef,undef,undef,undef,rfl,tX _,rfl,rfl,HJ0.out,HV0.out,List.nodup_nil,(fun D hD=>by cases hD),by simp⟩
 case zero=>
  rintro a wr ⟨k,Ds,pre,u4,u5,u9,u10,u11,u12,u13,u14,u15,u16,u17,u18,u19,u20,hm,hk,_⟩;omega
 case step=>
  rintro m a wr ⟨k,Ds,pre,u4,u5,u9,u10,u11,u12,u13,u14,u15,u16,u17,u18,u19,u20,hm,hk,rfl,hpre,hJs,hV,hnd,hds,hsz⟩;have HPRE:=lH hpre;have HJ:=lH hJs;have HV:=lH hV;have HND:=lH hnd;have HDS:=lH hds;have HSZ:=lH hsz;have HM:=lH hm;clear hpre hJs hV hnd hds hsz hm;by_cases hlt:k<vals.length
  ·have hk1:decide ((k:Int)<(vals.length:Int))=true:=dT (by omega)
   have c0:=(HV.out.r.cell k).trans (HCUR.out k hlt);obtain⟨s,hs⟩:∃s,s=vals[k]:=⟨_,rfl⟩;rw[<-hs] at c0;have HSS:Hid (s.size<=1000000):=HVS.out s (by rw[hs];exact List.getElem_mem hlt);have HFT:Hid ((vals.take (k+1)).flatMap bf=(vals.take k).flatMap bf++bf s):=by show _=_;rw[oO vals k hlt,hs]
   have HCT:Hid (gQ (vals.take k)+(s.size+1)<=gQ vals):=by show _<=_;rw[hs];exact oz vals k hlt
   have hki:(k:Int)<=1000000:=by omega
   have hk0:(0:Int)<=(k:Int):=by omega
   have hkl:(k:Int)<(vals.length:Int):=by omega
   clear hs;gi_wp2_with fail
   refine⟨HFN.out _,?_⟩;refine(HW.out _ _ _ _ _ (j7 s wr)).mono ?_;rintro e2 w2 ⟨rfl,hw2⟩;have hz2:w2.heap.size=wr.heap.size+3:=by rw[hw2];simp
   have hsb:Below wr.heap.size wr w2:=by rw[hw2];exact(((tU _ _).alloc (nR _) _).alloc (by simp) _).alloc (by simp;omega) _
   have K2:Hid (ac w2 wr.heap.size #[.string s] 9):=by show ac _ _ _ _;rw[hw2];exact((ac.new _ _ _).alloc _).alloc _
   have K1:Hid (ac w2 (wr.heap.size+1) #[.string ⟨#[44]⟩] 9):=by show ac _ _ _ _;rw[hw2];exact(ac.new' (by simp)).alloc _
   have K3:Hid (ac w2 (wr.heap.size+2) #[.int .i64 0] 3):=by show ac _ _ _ _;rw[hw2];exact ac.new' (by simp)
   have hj2:J pre w2:=by rw[hw2];exact HST.out.alloc _ (HST.out.alloc _ (HST.out.alloc _ HJ.out))
   have HI0:Hid (PtI J pre b W.heap.size y cur Ds w2.heap.size [] w2):=⟨by rw[List.map_nil,List.append_nil];exact hj2,⟨HV.out.r.call hsb,HV.out.f.call hsb⟩,fun D hD=>(hsb.block D (ua.1 (HDS.out D hD).2).1).trans (HDS.out D hD).2,nR _⟩;have HDL:Hid (∀D∈Ds,D<w2.heap.size):=fun D hD=>by have:=(ua.1 (HDS.out D hD).2).1;omega
   have HZ2:=lH hz2;have HGX:Hid (¬KX (wr.heap.size+1)/\¬KX wr.heap.size/\¬KX (wr.heap.size+2)):=⟨fun h=>by have:=hXW _ h;have:=HSZ.out;omega,fun h=>by have:=hXW _ h;have:=HSZ.out;omega,fun h=>by have:=hXW _ h;have:=HSZ.out;omega⟩
   have hpl:pre.length<=gQ (vals.take k):=by
    have h1:=jv (vals.take k);rw[<-HPRE.out,List.length_map] at h1;exact h1
   have HPL:=lH hpl;clear hw2 hz2 hsb hj2 hpl;gi_wp2_with fail
   refine bz hro (show 1<=n by omega) (gf:=243) (lb:=#[.pointer (some ⟨wr.heap.size+1,0,none⟩),.pointer (some ⟨wr.heap.size,0,none⟩),.pointer (some ⟨wr.heap.size+2,0,none⟩)]) rfl (HFN.out _) (enters_of Tryz.func243 (by kernel_rfl) rfl)
    (pX F (n - 1) HW.out HFN.out hro (by omega) B (wr.heap.size+1) wr.heap.size (wr.heap.size+2) NT (w2.heap.size+2) KX s HSS.out w2 (nT hB HSZ.out) HGX.out (by omega) K1.out K2.out K3.out)
    eF.trans (eF.put (Nat.lt_succ_self _)) (tU _ _) (fun _=>rfl)
    (PtI J pre b W.heap.size y cur Ds w2.heap.size) (PtX Jx pre Ds) (mY HST.out (by have:=HSZ.out;have:=HZ2.out;omega) hbB HDL.out) (mZ HSX.out (by have:=HSZ.out;have:=HZ2.out;omega) HDL.out) HI0.out
    (fun x=>{ tmps:=#[.func (.yield y) #[] #[],.pointer (some ⟨gv,0,none⟩),.pointer (some ⟨W.heap.size,0,none⟩),undef,.string s,.string x.1,.slice (some ⟨b,0,none⟩) vals.length cap,.int .i64 (vals.length:Int),.int .i64 (k:Int),.bool true,.pointer (some ⟨b,k,none⟩),.string s,.string s,.func (.func 243) #[] #[.pointer (some ⟨wr.heap.size+1,0,none⟩),.pointer (some ⟨wr.heap.size,0,none⟩),.pointer (some ⟨wr.heap.size+2,0,none⟩)],.string x.1,u15,u16,u17,u18,u19,u20],defers:=[] }) ?assign ?body ?done ?stop
   case assign=>
    intro l x V K hK;gi_wp2
    exact hK
   case body=>
    rintro l pre2 ⟨x,hx⟩ U ⟨hJu,hVu,hDu,hsu⟩ hlen2;dsimp only
    have hmx:Tryz.prog.follows .mixedOrders=true:=by kernel_rfl
    obtain⟨T,hT⟩:∃T,T=bT x:=⟨_,rfl⟩;have HTR:Hid (Calls Tryz.prog 172 #[.string x] U.drew fun e w'=>e=.returned (.string T)/\U.drew=w'):=by rw[hT];exact fL x (by omega) U.drew
    have hju:J (pre++pre2.map bI) U.drew:=HST.out _ _ _ hJu ((aa.refl _ U).drew);obtain⟨fn,tmps,assign,body,hy,hRr⟩:=HY.out _ (bI ⟨x,hx⟩) U.drew hju (by rw[ue,List.length_map];have:=HPL.out;have:=HCT.out;omega);have htx:(bI ⟨x,hx⟩).1=T:=hT.symm;rw[htx] at hy;have hmap:pre++(pre2++[(⟨x,hx⟩:Tx)]).map bI=pre++pre2.map bI++[bI ⟨x,hx⟩]:=by rw[uw,uR];rfl
    have HMAP:=lH hmap
    have HRr:=lH ((pO (m':=n - 1 - 1 - 1) hdp hRr).mono (R':=fun e W'=>∃B4,e=.returned (.bool B4)/\(B4=true->J (pre++pre2.map bI++[bI ⟨x,hx⟩]) W')/\(B4=false->Jx (pre++pre2.map bI++[bI ⟨x,hx⟩]) W')/\eF KX 222 NT Z U.drew W') (by
     rintro e W' (⟨rfl,h1,h2⟩|⟨rfl,h1,h2⟩)
     ·exact⟨true,rfl,fun _=>h1,(fun h=>by cases h),h2⟩
     ·exact⟨false,rfl,(fun h=>by cases h),fun _=>h1,h2⟩))
    have f0:=hVu.f.cell 0;simp at f0;have HVU:=lH hVu;have HDU:=lH hDu;have HSU:=lH hsu;clear hT hju hRr htx hmap hJu hVu hDu hsu hlen2;gi_wp2_with fail
    gi_region_with_o (first|(refine⟨HFN.out 172,?_⟩;refine(CallsIn.inRound l (HW.out _ _ _ _ _ HTR.out)).mono ?_;rintro e3 w3 ⟨rfl,rfl⟩)|(refine HRr.out.mono ?_;rintro e4 w4 ⟨B4,rfl,hj4,hx4,hk4⟩))
    all_goals
     have HK4:=lH (qV hk4);have HJ4:=lH hj4;have HX4:=lH hx4;clear hk4 hj4 hx4;cases B4
    all_goals gi_wp2_with fail
    all_goals first
     | exact⟨(HK4.out.others).mono (by have:=HSZ.out;have:=HZ2.out;omega),HK4.out.mono (by have:=HSZ.out;have:=HZ2.out;omega),by rw[HMAP.out];exact HJ4.out (by trivial),⟨dz HVU.out.r HK4.out hbX (Or.inl (by decide)),dz HVU.out.f HK4.out (fun h=>Nat.lt_irrefl _ (hXW _ h)) (Or.inl (by decide))⟩,fun D hD=>(HK4.out.others).2 D _ (nT hZ (HDS.out D hD).1) (HDU.out D hD) rfl,nT HSU.out HK4.out.size⟩
     | exact⟨(HK4.out.others).mono (by have:=HSZ.out;have:=HZ2.out;omega),HK4.out.mono (by have:=HSZ.out;have:=HZ2.out;omega),rfl,by rw[HMAP.out];exact HX4.out (by trivial),fun D hD=>(HK4.out.others).2 D _ (nT hZ (HDS.out D hD).1) (HDU.out D hD) rfl⟩
   case done=>
    rintro D ys V hD hys ⟨hJv,hVv,hDv,hsv⟩ hKd;have HYS:=lH (pq hys);have HJV:=lH hJv;have HVV:=lH hVv;have HDV:=lH hDv;have HSV:=lH hsv;have HKD:=lH hKd;have HDD:=lH hD;clear hD hys hJv hVv hDv hsv hKd;gi_wp2_with fail
    refine⟨k+1,D :: Ds,pre++ys.map bI,_,_,_,_,_,_,_,_,_,_,_,_,_,_,by have:=HM.out;omega,hlt,rfl,?_,HJV.out,HVV.out,List.nodup_cons.2 ⟨fun h=>by have h1:=HDL.out D h;have h2:=HDD.out;omega,HND.out⟩,?_,?_⟩
    ·rw[uw,List.map_map,HFT.out,HPRE.out]
     congr 1
     all_goals exact HYS.out
    ·intro E hE
     rcases List.mem_cons.1 hE with rfl|h
     ·exact⟨by have h1:=HDD.out;have h2:=HSZ.out;have h3:=HZ2.out;omega,HKD.out⟩
     ·exact⟨(HDS.out E h).1,HDV.out E h⟩
    ·have h1:=HSV.out
     have h2:=HSZ.out;have h3:=HZ2.out;omega
   case stop=>
    rintro D c pre2 V hD ⟨rest,hrest⟩ ⟨rfl,hJx,hDv⟩ hKd;have HJX:=lH hJx;have HDV:=lH hDv;have HKD:=lH hKd;have HDD:=lH hD
    have HRE:Hid (∃rest',(pre++pre2.map bI).map (·.1)++rest'=vals.flatMap bf):=by
     show ∃_,_;refine⟨rest.map (fun p=>⟨(bU p).toArray⟩)++(vals.drop (k+1)).flatMap bf,?_⟩;have e:vals.flatMap bf=(vals.take (k+1)).flatMap bf++(vals.drop (k+1)).flatMap bf:=by rw[<-List.flatMap_append,vc]
     rw[e,HFT.out,uw,HPRE.out,uR,uR];congr 1
     rw[<-uR];congr 1
     unfold bf;rw[<-hrest,uw,List.map_map,List.map_map];rfl
    clear hD hrest hJx hDv hKd;gi_wp2_with fail
    refine cU (fun w=>by simp[results,Tryz.results187,go_sem]) (D :: Ds) V (List.nodup_cons.2 ⟨fun h=>by have h1:=HDL.out D h;have h2:=HDD.out;omega,HND.out⟩) (fun E hE=>by
     rcases List.mem_cons.1 hE with rfl|h
     ·exact HKD.out
     ·exact HDV.out E h) (fun w' t=>⟨⟨_,rfl⟩,.inr ⟨_,HRE.out,HSX.out _ _ _ HJX.out (t.mono (fun j _ hj=>.inr ?_))⟩⟩)
    rcases List.mem_cons.1 hj with rfl|h
    ·exact⟨by have h1:=HDD.out;have h2:=HSZ.out;have h3:=HZ2.out;omega,_,HKD.out,rfl⟩
    ·exact⟨(HDS.out j h).1,_,HDV.out j h,rfl⟩
  ·have hk1:decide ((k:Int)<(vals.length:Int))=false:=dF (by omega)
   have hkn:k=vals.length:=by omega
   have HE:Hid (pre.map (·.1)=vals.flatMap bf):=by show _=_;rw[HPRE.out,hkn,uW]
   clear hkn;gi_wp2_with fail
   refine cU (fun w=>by simp[results,Tryz.results187,go_sem]) Ds wr HND.out (fun E hE=>(HDS.out E hE).2) (fun w' t=>⟨⟨_,rfl⟩,.inl ⟨_,HE.out,HST.out _ _ _ HJ.out (t.mono (fun j _ hj=>.inr ⟨(HDS.out j hj).1,_,(HDS.out j hj).2,rfl⟩))⟩⟩)
theorem pw (F:Fence) (n:Nat) (hfn:∀f,F.fn f) (hro:F.round=none) (y gv B C:Nat) (p:Option Addr) (cap:Nat) (J Jx:List Tx->World->Prop) (W:World) (hJ:az 9 B C J) (h0:J [] W) (kv:ac W gv #[.slice p 0 cap] 22):
 CallsIn F n Tryz.prog 187 #[.func (.yield y) #[] #[],.pointer (some ⟨gv,0,none⟩)] W fun e W'=>(∃v,e=.returned v)/\
  ((∃ys:List Tx,ys.map (·.1)=([]:List ByteArray)/\J ys W')\/(∃pre:List Tx,(∃rest,pre.map (·.1)++rest=([]:List ByteArray))/\Jx pre W')):=by
 have kv2:=(kv.alloc (.cells #[.func (.yield y) #[] #[]] 59)).cell 0;simp at kv2;refine callsIn_of_wp_marks Tryz.func187 rfl (hfn _) ?_ hro;simp only[Tryz.ntmps187,List.size_toArray,t4,uT,Nat.reduceAdd,Nat.reduceSub,Array.replicate_succ,Array.replicate_zero,List.push_toArray,List.append_toArray,vm,uS];gi_wp2_with fail
 refine wpIn_loop_rounds 1 ?_;rw[roundsIn_succ];gi_wp2_with fail
 refine cU (fun w=>by simp[results,Tryz.results187,go_sem]) [] _ List.nodup_nil (fun E hE=>by cases hE) (fun w' t=>⟨⟨_,rfl⟩,.inl ⟨[],rfl,?_⟩⟩);exact hJ _ _ _ (hJ.alloc _ h0) (t.mono (fun j _ hj=>by cases hj))
theorem lP (F:Fence) (n:Nat) (hw:∀f args (W:World) R M,Calls Tryz.prog f args W R->CallsIn F M Tryz.prog f args W R) (hfn:∀f,F.fn f) (hro:F.round=none) (hdp:F.depth=none) (hn:6<=n) (B gv B0 NT:Nat) (KX:Nat->Prop) (v:Value) (vals:List ByteArray) (hvs:∀s∈vals,s.size<=1000000) (hvl:vals.length<=1000000) (w:World)
 (ho:ao w B0 v vals) (hB:B<=w.heap.size) (hbB:∀k,v.ownBlock=some k->k<B/\¬KX k) (hXW:∀k,KX k->k<w.heap.size) (kv:ac w gv #[v] 22):
 rR F n Tryz.prog 187 #[.pointer (some ⟨gv,0,none⟩)] (fun x:Tx=>#[Value.string x.1]) (eF KX 222 NT (w.heap.size+2)) 9 B (fun ys=>ys.map (·.1)=vals.flatMap bf) (fun pre=>∃rest,pre.map (·.1)++rest=vals.flatMap bf) (gQ vals+1) w:=by
 intro y J Jx W hW hz hJ hJx hY h0;by_cases hv:vals.length=0
 ·obtain rfl:vals=[]:=t9 hv
  obtain⟨p,c,rfl⟩:=ho.shape;exact pw F n hfn hro y gv B W.heap.size p c J Jx W hJ h0 (kv.call hW)
 ·obtain⟨g,cap,cur,rfl,_,hg,hcl,htk⟩:=ho.block (by omega)
  have hb:=hbB g rfl;refine pr F n hw hfn hro hdp hn y B g gv NT (w.heap.size+2) KX vals cap cur hvs hvl J Jx hY W hJ hJx (nT hB hW.size) hb.1 hz hb.2 (fun k hk=>uD (hXW k hk) hW.size) (kv.call hW) (ac.call hg hW) (fun k hk=>?_) h0;have a:(vals.map Value.string)[k]? = some (.string vals[k]):=by rw[u2,tW hk];rfl
  rw[<-htk,vg,if_pos hk] at a;simpa using a
end Go.Proofs.YthjbodpeckebiaaGreatDoor
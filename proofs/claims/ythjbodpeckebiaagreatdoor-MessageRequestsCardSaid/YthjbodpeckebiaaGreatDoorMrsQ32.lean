/- Texts packed for one claim, 32 of 52: HHead HdA RdP Read16 Read22 HdD. -/
import Derived.Test.YthjbodpeckebiaaGreatDoorMrsQ20
import Derived.Lib.LazyBuf
import Derived.Test.YthjbodpeckebiaaGreatDoorMrsQ19
set_option maxRecDepth 100000
set_option maxHeartbeats 16000000
set_option linter.unusedSimpArgs false
set_option linter.unusedVariables false
-- HHead
namespace Go.Proofs.YthjbodpeckebiaaGreatDoor
open Go.RowKit
theorem jU {w:World} {b g B:Nat} {vl va vf:Value} {kind a fields c d fold:Int} {p:fb} (h:bH w b g B vl va vf kind a fields c d fold p):
 Calls Tryz.prog 36 #[.pointer (some ⟨b,0,none⟩)] w fun e w'=>e=.returned (.bool (!p.all.isEmpty||p.fin||p.ln.within))/\w=w':=by
 have a0:w.cell? ⟨b,0,none⟩=some (.pointer (some ⟨g,0,none⟩)):=h.k.cell 0;have a7:w.cell? ⟨b,7,none⟩=some va:=h.k.cell 7;have a8:w.cell? ⟨b,8,none⟩=some (.bool p.fin):=h.k.cell 8;have HW:=lH (tf h.l);obtain⟨pp,cc,hsh⟩:=h.o.shape;rw[hsh] at a7;clear h hsh;obtain⟨F,hF⟩:∃F,F=p.fin:=⟨_,rfl⟩;obtain⟨Z,hZ⟩:∃F,F=p.ln.within:=⟨_,rfl⟩;rw[<-hF] at a8 ⊢;rw[<-hZ] at HW ⊢;clear hF hZ;cases hl:p.all with
 | nil=>
   rw[hl] at a7;cases F
   ·go_enter Tryz.func36,Tryz.ntmps36
    go_wp2_with (go_at_call 62;refine HW.out.mono ?_;rintro e1 w1 ⟨rfl,rfl⟩)
    go_ret;exact⟨rfl,rfl⟩
   ·go_enter Tryz.func36,Tryz.ntmps36
    go_wp2_with (go_at_call 62;refine HW.out.mono ?_;rintro e1 w1 ⟨rfl,rfl⟩)
    go_ret;exact⟨rfl,rfl⟩
 | cons x r=>
   rw[hl] at a7;have hlen:(x :: r).length=r.length+1:=rfl;rw[hlen] at a7;go_enter Tryz.func36,Tryz.ntmps36
   go_wp2_with (go_at_call 62;refine HW.out.mono ?_;rintro e1 w1 ⟨rfl,rfl⟩)
   go_ret;exact⟨rfl,rfl⟩
theorem Am (l:List Fd):∀u∈di l,u.oneCell'=true:=by
 intro u hu;unfold di at hu;obtain⟨f,_,hf⟩:=List.mem_flatMap.1 hu;simp at hf;rcases hf with rfl|rfl<;>rfl
theorem pE (v:Value) (l:List Fd) (w:World) (h:cu w v l) (hl:l.length<=1000000):
 Calls Tryz.prog 45 #[v] w fun e w'=>∃p c,e=.returned (.slice p l.length c)/\ao w' w.heap.size (.slice p l.length c) l/\Below w.heap.size w w':=by
 obtain⟨p,c,rfl,hc⟩:=h;have q27:∀(W:World) (a:Option Addr) (n c:Nat),(binOp .eql 42 (.slice a n c) (.slice none 0 0)).run Tryz.prog W=.ok (.bool a.isNone) W:=fun W a n c=>Lib.run_eql_slice_nil W _ _ a n c 0 0 Tryz.underlying42;cases p with
 | none=>
   have h0:l=[]:=by
    cases l with
    | nil=>rfl
    | cons x r=>
      obtain⟨b,off,hp,_⟩:=hc 0 (by simp);cases hp
   subst h0;clear hc;go_enter Tryz.func45,Tryz.ntmps45
   go_wp2_with fail
   go_ret;exact⟨none,0,rfl,ao.start _ _,EK _ _⟩
 | some ad=>
   have hnews:∀j u,(di l)[j]? = some u->(w.alloc (.cells #[] 95)).cell? (ad.add j)=some u:=by
    intro j u hj
    have hlj:j<(di l).length:=by
     rcases FM j (di l).length with h|h
     ·exact h
     ·rw[FO h] at hj
      cases hj
    have hfl:(di l).length=l.length*2:=fS l;have hk:j / 2<l.length:=by omega
    obtain⟨b,off,hp,c1,c2⟩:=hc (j / 2) hk;injection hp with hp
    subst hp;have hadd:(⟨b,off,none⟩:Addr).add j=⟨b,off+j,none⟩:=by unfold Addr.add;split<;>simp_all
    rw[hadd];have hw:∀q x,w.cell? q=some x->(w.alloc (.cells #[] 95)).cell? q=some x:=fun q x hq=>kx (P:=fun _=>False) ((aa.refl _ w).alloc _) id hq;refine hw _ _ ?_;have hat:=m8 l (j / 2) hk;rcases Nat.mod_two_eq_zero_or_one j with hm|hm
    ·have e:j=2*(j / 2):=by omega
     rw[<-e] at hat c1;rw[c1,<-hj,hat.1]
    ·have e:j=2*(j / 2)+1:=by omega
     have e2:off+2*(j / 2)+1=off+j:=by omega
     rw[<-e] at hat;rw[e2] at c2;rw[c2,<-hj,hat.2]
   have HC:=lH hnews;have HL:=lH hl;clear hc hnews hl;obtain⟨i0,hi,hz0,hz1,hz2⟩:=info_parts jX;go_enter Tryz.func45,Tryz.ntmps45
   go_wp2_with (at_builtin;refine wpList_append_own _ rfl _ _ 42 rfl w.heap.size 95 i0 _ 2 32 Tryz.underlying42 hi hz0 hz1 hz2 rfl (by decide) _ _ _ rfl (ao.empty w) ad l.length c (di l) rfl ?c1 HC.out ?c2 ?c3 ?c4 ?c5 ?_)
   case c1=>exact fS l
   case c2=>exact Am l
   case c3=>have:=HL.out;unfold maxLen;simp;omega
   case c4=>have:=HL.out;simp;omega
   case c5=>simp
   intro v' w1 hown1 hg _
   have hown2:World.ownsRow w1 w.heap.size 95 2 v' l.length (di l):=by
    have h:=hown1;rw[show di []=[] from rfl] at h;simpa using h
   obtain⟨p',c',rfl⟩:=aC hown2;go_wp2_with fail
   go_ret;exact⟨p',c',rfl,hown2,((EK _ w).alloc (nR _) _).grown hg (by simp) (fun k hk=>by simp[Value.ownBlock] at hk;omega)⟩
def iM (p:fb):Hd:=if (p.fin&&p.e==0)=true then p.hd else cN
theorem xQ {w:World} {b g B:Nat} {vl va vf:Value} {kind a fields c d fold:Int} {p:fb} (h:bH w b g B vl va vf kind a fields c d fold p) (hl:p.hd.fs.length<=1000000):
 Calls Tryz.prog 49 #[.pointer (some ⟨b,0,none⟩)] w fun e w'=>∃f,e=.returned (.agg ((iM p).row f))/\ao w' w.heap.size f (iM p).fs/\Below w.heap.size w w':=by
 obtain⟨DN,hDN⟩:∃D,D=(p.fin&&p.e==0):=⟨_,rfl⟩;have hbl:b<w.heap.size:=h.k.lt;have HD:=lH (fun(W:World) (hW:bH W b g B vl va vf kind a fields c d fold p)=>fq hW);rw[<-hDN] at HD;have h1:bH (w.alloc (.cells #[.string ⟨#[]⟩,.string ⟨#[]⟩,.int .i64 0,.int .i64 0,.string ⟨#[]⟩,.slice none 0 0] 44)) b g B vl va vf kind a fields c d fold p:=h.touch (P:=fun _=>False) ((aa.refl _ w).alloc _) id id (fun _ _=>id);have H1:=lH h1;cases DN with
 | false=>
   have hR:iM p=cN:=by unfold iM;rw[<-hDN];rfl
   have HR:=lH hR;rw[hR];clear hR hDN h h1;go_enter Tryz.func49,Tryz.ntmps49
   go_wp2_with (go_at_call 48;refine(HD.out _ H1.out).mono ?_;rintro e1 w1 ⟨rfl,h1⟩;subst h1)
   refine EW (results_cell_row (Tryz.results49) _ _ w.heap.size 44 (cN.row cx) (0,0) _ rfl ?_ Tryz.underlying44 rfl (by kernel_rfl)) rfl ⟨cx,rfl,?_,?_⟩
   ·exact af.new _ _ _
   ·exact ao.start _ _
   ·exact(EK w.heap.size w).alloc (nR _) _
 | true=>
   have hR:iM p=p.hd:=by unfold iM;rw[<-hDN];rfl
   rw[hR];obtain⟨Q,hQ⟩:∃Q,Q=p.hd:=⟨_,rfl⟩;have hk:=h1.k;have hof:=h1.f;rw[<-hQ] at hof hl ⊢;obtain⟨qm,qt,qk,qn,qr,qf⟩:=Q;obtain⟨a9,a10,a11,a12,a13,a14⟩:=Aw hk 9 10 11 12 13 14;simp[iH] at a9 a10 a11 a12 a13 a14;rw[<-hQ] at a9 a10 a11 a12 a13;simp only at a9 a10 a11 a12 a13 hof hl;obtain⟨pv,cv,rfl⟩:=aC hof;have HC:=lH (fun(V:World) (hV:cu V (.slice pv qf.length cv) qf)=>pE _ qf V hV hl);have HF:=lH ((hof.alloc (.cells #[.string qm,.string qt,.int .i64 qk,.int .i64 qn,.string qr,.slice pv qf.length cv] 44)).flds);clear hR hDN h h1 hof hk hQ hl;go_enter Tryz.func49,Tryz.ntmps49
   go_wp2_with (first|(go_at_call 48;refine(HD.out _ H1.out).mono ?_;rintro e1 w1 ⟨rfl,h1⟩;subst h1)|(go_at_call 45;refine(HC.out _ HF.out).mono ?_;rintro e1 w2 ⟨p2,c2,rfl,ho2,hb2⟩;have KZ:=lH (((af.new w #[.string ⟨#[]⟩,.string ⟨#[]⟩,.int .i64 0,.int .i64 0,.string ⟨#[]⟩,.slice none 0 0] 44).alloc (.cells #[.string qm,.string qt,.int .i64 qk,.int .i64 qn,.string qr,.slice pv qf.length cv] 44)).call hb2);have KR:=lH ((cM w #[.string ⟨#[]⟩,.string ⟨#[]⟩,.int .i64 0,.int .i64 0,.string ⟨#[]⟩,.slice none 0 0] #[.string qm,.string qt,.int .i64 qk,.int .i64 qn,.string qr,.slice pv qf.length cv] 44 44).call hb2);have HO2:=lH ho2;have HB2:=lH (bZ hb2);have hs2:=hb2.size;clear ho2 hb2 a9 a10 a11 a12 a13 a14;have z0:=KZ.out.cell 0;have zf0:=KZ.out.froz 0;have z1:=KZ.out.cell 1;have zf1:=KZ.out.froz 1;have z2:=KZ.out.cell 2;have zf2:=KZ.out.froz 2;have z3:=KZ.out.cell 3;have zf3:=KZ.out.froz 3;have z4:=KZ.out.cell 4;have zf4:=KZ.out.froz 4;have z5:=KZ.out.cell 5;have zf5:=KZ.out.froz 5;obtain⟨r0,r1,r2,r3,r4,r5⟩:=Aw KR.out 0 1 2 3 4 5;have rf5:=KR.out.froz 5;simp at z0 z1 z2 z3 z4 z5 r0 r1 r2 r3 r4 r5))
   have KZ2:=KZ.out.far (p:=⟨w.heap.size+1,5,none⟩) (show w.heap.size≠w.heap.size+1 by omega) (.slice p2 qf.length c2);refine EW (results_cell_row (Tryz.results49) _ _ w.heap.size 44 _ (0,0) _ rfl (bF KZ2 (.string qm) (.string qt) (.int .i64 qk) (.int .i64 qn) (.string qr) (.slice p2 qf.length c2)) Tryz.underlying44 rfl (by kernel_rfl)) rfl ⟨.slice p2 qf.length c2,rfl,?_,?_⟩
   ·exact ao.lower (lw (aD HO2.out (by simp) 5 _) (by simp;omega) _ _ _ _ _ _) (by simp;omega)
   ·exact aR (HB2.out.setCell (p:=⟨w.heap.size+1,5,none⟩) (FV _) _) (nR _) _ _ _ _ _ _
end Go.Proofs.YthjbodpeckebiaaGreatDoor
-- HdA
-- RdP
namespace Go.Proofs.YthjbodpeckebiaaGreatDoor
open Go.RowKit
def db (ls:List (List UInt8)):Nat:=(ls.map fun x=>x.length+2).sum
theorem jB (ls:List (List UInt8)) (x:List UInt8):db (ls++[x])=db ls+x.length+2:=by
 unfold db;simp;omega
theorem fm (ls:List (List UInt8)) (k:Nat):db (ls.take k)<=db ls:=by
 have h:db ls=db (ls.take k)+db (ls.drop k):=by
  unfold db;rw[<-List.sum_append,<-Fo,Gp]
 omega
theorem oK (ls:List (List UInt8)):ls.length<=db ls:=by
 unfold db;induction ls with
 | nil=>exact nR _
 | cons x r ih=>
   simp at ih ⊢;omega
theorem rl {S:ByteArray} {k:Nat} (hlt:k<S.size) {c:UInt8} (hc:S.data.toList[k]? = some c):bt S k=c.toNat:=by
 unfold bt;rw[dif_pos hlt];have:S.data.toList[k]? = some S[k]:=by rw[EM (by rw[<-Lib.size_eq];exact hlt)];rfl
 rw[this] at hc;injection hc with hc
 rw[hc]
theorem Aq (c n:UInt8) (m:Int) (hm:m=n.toNat):decide (c=n)=((c.toNat:Int)==m):=by
 subst hm;by_cases e:c=n
 ·subst e
  rw[dT rfl];simp
 ·rw[dF e,eq_comm,EJ]
  intro k;exact e (Fg.1 (by omega))
structure cJ (most:Int) (l:List UInt8) (R:List (List UInt8)×Bool×Nat×Int) (k f:Nat) (ls:List (List UInt8)) (cur:List UInt8) (turn:Bool):Prop where
 r:R=(ls++(cP most (l.drop k) k cur turn).1,(cP most (l.drop k) k cur turn).2)
 n:f+cur.length+(if turn=true then 1 else 0)=k
 t:(l.drop f).take (k - f)=cur++(if turn=true then [13] else [])
 c:(13:UInt8)∉cur
 s:db ls=f
theorem cJ.start (most:Int) (l:List UInt8):cJ most l (cP most l 0 [] false) 0 0 [] [] false:=⟨rfl,rfl,by simp,by simp,rfl⟩
theorem cJ.le {most:Int} {l:List UInt8} {R:List (List UInt8)×Bool×Nat×Int} {k f:Nat} {ls:List (List UInt8)} {cur:List UInt8} {turn:Bool} (h:cJ most l R k f ls cur turn):f<=k:=by
 have:=h.n;omega
theorem cJ.within {most:Int} {l:List UInt8} {R:List (List UInt8)×Bool×Nat×Int} {k f:Nat} {ls:List (List UInt8)} {cur:List UInt8} {turn:Bool} (h:cJ most l R k f ls cur turn):(!cur.isEmpty||turn)=decide (f<k):=by
 have hn:=h.n;cases cur with
 | nil=>
   cases turn with
   | true=>simp at hn ⊢;omega
   | false=>simp at hn ⊢;omega
 | cons x r=>
   simp at hn ⊢;omega
theorem cJ.last {most:Int} {l:List UInt8} {R:List (List UInt8)×Bool×Nat×Int} {k f:Nat} {ls:List (List UInt8)} {cur:List UInt8} {turn:Bool} (h:cJ most l R k f ls cur turn) (hf:f<k) (hk:k<=l.length) {x:UInt8} (hx:l[k - 1]? = some x):decide (x=13)=turn:=by
 have ht:=h.t;have hlen:((l.drop f).take (k - f)).length=k - f:=by rw[Ge,ES];omega
 have hlast:((l.drop f).take (k - f))[k - f - 1]? = some x:=by
  rw[Gn (by omega),Gf,show f+(k - f - 1)=k - 1 by omega];exact hx
 rw[ht] at hlast hlen;have hn:=h.n;cases turn with
 | true=>
   simp only[if_true] at hlast hn;rw[List.getElem?_append_right (by omega),show k - f - 1 - cur.length=0 by omega] at hlast;simp at hlast;rw[<-hlast];rfl
 | false=>
   simp only[FX,if_false,Fp] at hlast hn;have hm:=GR hlast;refine dF (fun e=>h.c ?_);rw[<-e];exact hm
theorem jL {α:Type} (l:List α) (f k:Nat) (hf:f<=k) {c:α} (hc:l[k]? = some c):(l.drop f).take (k+1 - f)=(l.drop f).take (k - f)++[c]:=by
 have h1:(l.drop f)[k - f]? = some c:=by rw[Gf,show f+(k - f)=k by omega];exact hc
 obtain⟨hl,he⟩:=Gl.1 h1;rw[show k+1 - f=k - f+1 by omega,E8 hl,he]
theorem nc {α:Type} (l:List α) (k:Nat) {c:α} (hc:l[k]? = some c):l.drop k=c :: l.drop (k+1):=by
 obtain⟨hl,he⟩:=Gl.1 hc;rw[Fa hl,he]
section
variable {most:Int} {l:List UInt8} {R:List (List UInt8)×Bool×Nat×Int} {k f:Nat} {ls:List (List UInt8)} {cur:List UInt8} {turn:Bool}
theorem cJ.long (h:cJ most l R k f ls cur turn) {c:UInt8} (hc:l[k]? = some c) (hm:(k:Int)=most):R=(ls,decide (f<k),k,4):=by
 rw[h.r,nc l k hc,cP,if_pos hm,h.within];simp
theorem cJ.wrong (h:cJ most l R k f ls cur turn) {c:UInt8} (hc:l[k]? = some c) (hm:(k:Int)≠most) (hw:turn≠decide (c=10)):R=(ls,decide (f<k),k,8):=by
 rw[h.r,nc l k hc,cP,if_neg hm,if_pos hw,h.within];simp
theorem cJ.stop (h:cJ most l R k f ls cur turn) (hk:l.length<=k):R=(ls,decide (f<k),k,0):=by
 rw[h.r,E6 hk,cP,h.within];simp
theorem cJ.next (h:cJ most l R k f ls cur turn) {c:UInt8} (hc:l[k]? = some c) (hm:(k:Int)≠most) (ht:turn=false) (h10:c≠10):∃cur' turn',cJ most l R (k+1) f ls cur' turn':=by
 subst ht;have hle:=h.le;have hr:=h.r;have hn:=h.n;have hx:=h.t;rw[nc l k hc,cP,if_neg hm,if_neg (by rw[dF h10];simp)] at hr;simp only[FX,if_false,Fp] at hn hx;by_cases h13:c=13
 ·rw[if_pos h13] at hr
  refine⟨cur,true,hr,by simp;omega,?_,h.c,h.s⟩;rw[jL l f k hle hc,hx,h13];rfl
 ·rw[if_neg h13,if_neg h10] at hr
  refine⟨cur++[c],false,hr,by simp;omega,?_,?_,h.s⟩
  ·rw[jL l f k hle hc,hx]
   simp
  ·intro hm2
   rcases List.mem_append.1 hm2 with hm2|hm2
   ·exact h.c hm2
   ·exact h13 (Gw.1 hm2).symm
theorem cJ.line (h:cJ most l R k f ls cur turn) {c:UInt8} (hc:l[k]? = some c) (hm:(k:Int)≠most) (ht:turn=true) (h10:c=10):cJ most l R (k+1) (k+1) (ls++[cur]) [] false:=by
 subst ht;have hr:=h.r;rw[nc l k hc,cP,if_neg hm,if_neg (by rw[dT h10];simp),if_neg (by rw[h10];decide),if_pos h10] at hr;have hn:=h.n;refine⟨?_,by simp,by simp,by simp,?_⟩
 ·rw[hr]
  simp
 ·rw[jB,h.s]
  simp at hn;omega
theorem cJ.text (h:cJ most l R k f ls cur turn) (ht:turn=true):(l.drop f).take (k - 1 - f)=cur:=by
 subst ht;have hn:=h.n;have hx:=h.t;simp only[if_true] at hn hx;have h2:k - 1 - f=cur.length:=by omega
 rw[h2];have:=FH (List.take cur.length) hx;rw[List.take_take,Nat.min_eq_left (by omega)] at this;rw[this];simp
end
theorem jx (most:Int):∀(l:List UInt8) (i:Nat) (cur:List UInt8) (turn:Bool),db (cP most l i cur turn).1<=l.length+cur.length+(if turn=true then 1 else 0)
 | [],i,cur,turn=>by
   show db []<=_;exact EN _
 | c :: r,i,cur,turn=>by
   rw[cP];split
   ·exact EN _
   split
   ·exact EN _
   split
   ·have ih:=jx most r (i+1) cur true
    rename_i h1 h2 h3
    have ht:turn=false:=by
     have:=Decidable.not_not.1 h2;rw[this,h3];rfl
    rw[ht];simp at ih ⊢;omega
   split
   ·have ih:=jx most r (i+1) [] false
    rename_i h1 h2 h3 h4
    have ht:turn=true:=by
     have:=Decidable.not_not.1 h2;rw[this,h4];rfl
    rw[ht];unfold db at ih ⊢;simp at ih ⊢;omega
   ·have ih:=jx most r (i+1) (cur++[c]) false
    rename_i h1 h2 h3 h4
    have ht:turn=false:=by
     have:=Decidable.not_not.1 h2;rw[this];exact dF h4
    rw[ht];simp at ih ⊢;omega
end Go.Proofs.YthjbodpeckebiaaGreatDoor
-- Read16
namespace Go.Proofs.YthjbodpeckebiaaGreatDoor
open Go.RowKit
theorem ei {fn:Func} {t u v x:Tmp} (h:fn.results=#[.tmp t,.tmp u,.tmp v,.tmp x]) (tmps:Array Value) (P:Program) (w:World):
 (results fn tmps).run P w=.ok (.tuple #[tmps.getD t undef,tmps.getD u undef,tmps.getD v undef,tmps.getD x undef]) w:=by
 simp[results,h]
theorem j7 (S:ByteArray) (most:Int) (w:World) (hS:S.size<=1000000):
 Calls Tryz.prog 81 #[.string S,.int .i64 most] w fun e w'=>∃v,e=.returned (.tuple #[v,.bool (cP most S.data.toList 0 [] false).2.1,.int .i64 (cP most S.data.toList 0 [] false).2.2.1,.int .i64 (cP most S.data.toList 0 [] false).2.2.2])/\ap w' w.heap.size v ((cP most S.data.toList 0 [] false).1.map aw)/\Below w.heap.size w w':=by
 have hst0:=cJ.start most S.data.toList;obtain⟨R,hR⟩:∃R,R=cP most S.data.toList 0 [] false:=⟨_,rfl⟩;rw[<-hR] at hst0 ⊢;clear hR;have HST0:=lH hst0;have hn:S.data.toList.length=S.size:=(Lib.size_eq S).symm;have HN:=lH hn;have HO0:=lH (ap.empty w);have HB0:=lH ((EK w.heap.size w).alloc (nR _) (.cells #[] 9));clear hst0 hn;go_enter Tryz.func81,Tryz.ntmps81
 go_wp2_with fail
 go_loopw [8,9,10] (fun u8 u9 u10 wr=>∃(k f:Nat) (ls:List (List UInt8)) (cur:List UInt8) (turn:Bool),k<=S.size/\u10=.int .i64 k/\u9=.int .i64 f/\cJ most S.data.toList R k f ls cur turn/\ap wr w.heap.size u8 (ls.map aw)/\Below w.heap.size w wr) (fun _ _ u10 _=>S.size - (intOf u10).toNat)
 case atStart=>exact⟨0,0,[],[],false,EN _,rfl,rfl,HST0.out,HO0.out,HB0.out⟩
 case round=>
  obtain⟨k,f,ls,cur,turn,hk,rfl,rfl,hst,hown,hbel⟩:=hrel;have HST:=lH hst;have HO:=lH hown;have HB:=lH hbel;have hfk:=cJ.le hst
  have HLS:Hid (ls.length<=k):=by
   show ls.length<=k;have h1:=oK ls;rw[cJ.s hst] at h1;omega
  obtain⟨FK,hFK⟩:∃b,b=decide (f<k):=⟨_,rfl⟩;have hFI:decide (f<k)=FK:=hFK.symm;have HFK:=lH hFK;clear hst hown hbel hFK;by_cases hlt:k<S.size
  ·have hk1:decide ((k:Int)<(S.size:Int))=true:=dT (by omega)
   obtain⟨c,hc⟩:∃c,S.data.toList[k]? = some c:=⟨_,EM (by have:=HN.out;omega)⟩;have HC:=lH hc;have hix:∀W:World,(Instr.index 9 (.string S) (.int .i64 (k:Int))).run Tryz.prog W=.ok (.int .u8 (bt S k)) W:=aj S k hlt;obtain⟨x,hx⟩:∃x:Int,x=bt S k:=⟨_,rfl⟩;rw[<-hx] at hix
   have HX:Hid (decide (c=10)=(x==10)):=by
    show _=_;rw[hx,rl hlt hc];exact Aq c 10 10 rfl
   clear hx hc;by_cases hm:(k:Int)=most
   ·have hm1:((k:Int)==most)=true:=by rw[FA];exact hm
    have hw:=cJ.long HST.out HC.out hm;rw[<-HFK.out] at hw;have HF:=lH hw;clear hw hm;go_wp2_with fail
    exact EW (ei Tryz.results81 _ _ _) rfl ⟨u8,by rw[HF.out];rfl,by rw[HF.out];exact HO.out,HB.out⟩
   have hm1:((k:Int)==most)=false:=by rw[EJ];exact hm
   have HNM:=lH hm;clear hm;have hw1:wrap64 ((k:Int) - 1)=(k:Int) - 1:=FY _ ⟨by omega,by omega⟩;cases FK with
   | true=>
     have hfk2:f<k:=by have:=HFK.out;exact of_decide_eq_true this.symm
     obtain⟨c1,hc1⟩:∃c1,S.data.toList[k - 1]? = some c1:=⟨_,EM (by have:=HN.out;omega)⟩
     have hix1:∀W:World,(Instr.index 9 (.string S) (.int .i64 ((k:Int) - 1))).run Tryz.prog W=.ok (.int .u8 (bt S (k - 1))) W:=fun W=>by
      have:=aj S (k - 1) (by omega) W;rw[show ((k - 1:Nat):Int)=(k:Int) - 1 by omega] at this;exact this
     obtain⟨x1,hx1⟩:∃x1:Int,x1=bt S (k - 1):=⟨_,rfl⟩;rw[<-hx1] at hix1
     have h13:(x1==13)=turn:=by
      have h1:=cJ.last HST.out hfk2 (by have:=HN.out;omega) hc1;rw[hx1,rl (by omega) hc1,<-Aq c1 13 13 rfl];exact h1
     have hS1:S[k - 1]'(by omega)=c1:=by
      have:S.data.toList[k - 1]? = some (S[k - 1]'(by omega)):=by rw[EM (by have:=HN.out;omega)];rfl
      rw[this] at hc1;injection hc1
     have h13c:((c1.toNat:Int)==13)=turn:=by rw[<-h13,hx1,rl (by omega) hc1]
     clear hx1 hc1;cases turn with
     | true=>
       have HT:Hid (true=true):=rfl;cases hx10:(x==10) with
       | true=>
         have hst':=cJ.line HST.out HC.out HNM.out HT.out (by have:=HX.out;rw[hx10] at this;exact of_decide_eq_true this);have htx:=cJ.text HST.out HT.out;have hle:=cJ.le HST.out
         have hsl:∀W:World,(Instr.slice 9 (.string S) (some (.int .i64 (f:Int))) (some (.int .i64 ((k:Int) - 1))) none).run Tryz.prog W=.ok (.string (aw cur)) W:=fun W=>by
          rw[run_slice_string W 9 S .i64 .i64 (f:Int) ((k:Int) - 1) Tryz.underlying9 (by omega) (by omega) (by omega),EX,show ((k:Int) - 1).toNat=k - 1 by omega];congr 2
          rw[aw,<-htx];apply GU;apply Array.toList_inj.1;simp[ByteArray.data_extract,List.extract_eq_take_drop]
         have hll:(ls.map aw).length=ls.length:=F9 _
         have hlb:ls.length<=1000000:=by
          have h1:=cJ.n HST.out;have h2:=HLS.out;omega
         have hrl:(ls.map aw++[aw cur])=(ls++[cur]).map aw:=by simp
         have HST':=lH hst';have HRL:=lH hrl;have HLB:=lH (show ls.length+1<=k+1 by have:=HLS.out;omega);have HBS:=lH HB.out.size;clear hst' htx hrl;go_wp2_with (at_builtin;refine aF rfl _ _ rfl rfl HO.out (aw cur) rfl (by rw[hll];exact hlb) HBS.out ?_;intro p4 c4 w4 ho4 _ hb4;have HO4:Hid (ap w4 w.heap.size (.slice p4 (ls.length+1) c4) (ls.map aw++[aw cur])):=(show ap w4 w.heap.size (.slice p4 (ls.length+1) c4) (ls.map aw++[aw cur]) by rw[<-hll];exact ho4);have HB4:=lH hb4;clear ho4 hb4)
         go_roundw
         case rel=>exact⟨k+1,k+1,ls++[cur],[],false,by omega,by go_num,by go_num,HST'.out,by rw[<-HRL.out];exact HO4.out,HB.out.trans HB4.out⟩
         case measure=>simp[intOf];omega
       | false=>
         have hw:=cJ.wrong HST.out HC.out HNM.out (by rw[HX.out,hx10,HT.out];decide);rw[<-HFK.out] at hw;have HF:=lH hw;clear hw;go_wp2_with fail
         exact EW (ei Tryz.results81 _ _ _) rfl ⟨u8,by rw[HF.out];rfl,by rw[HF.out];exact HO.out,HB.out⟩
     | false=>
       have HT:Hid (false=false):=rfl;cases hx10:(x==10) with
       | true=>
         have hw:=cJ.wrong HST.out HC.out HNM.out (by rw[HX.out,hx10,HT.out];decide);rw[<-HFK.out] at hw;have HF:=lH hw;clear hw;go_wp2_with fail
         exact EW (ei Tryz.results81 _ _ _) rfl ⟨u8,by rw[HF.out];rfl,by rw[HF.out];exact HO.out,HB.out⟩
       | false=>
         obtain⟨cur',turn',hst'⟩:=cJ.next HST.out HC.out HNM.out HT.out (by have:=HX.out;rw[hx10] at this;exact of_decide_eq_false this);have HST':=lH hst';clear hst';go_wp2_with fail
         go_roundw
         case rel=>exact⟨k+1,f,ls,cur',turn',by omega,by go_num,rfl,HST'.out,HO.out,HB.out⟩
         case measure=>simp[intOf];omega
   | false=>
     have ht:turn=false:=by
      have h1:=cJ.within HST.out;rw[<-HFK.out] at h1;cases turn with
      | true=>simp at h1
      | false=>rfl
     subst ht;have HT:Hid (false=false):=rfl;cases hx10:(x==10) with
     | true=>
       have hw:=cJ.wrong HST.out HC.out HNM.out (by rw[HX.out,hx10,HT.out];decide);rw[<-HFK.out] at hw;have HF:=lH hw;clear hw;go_wp2_with fail
       exact EW (ei Tryz.results81 _ _ _) rfl ⟨u8,by rw[HF.out];rfl,by rw[HF.out];exact HO.out,HB.out⟩
     | false=>
       obtain⟨cur',turn',hst'⟩:=cJ.next HST.out HC.out HNM.out HT.out (by have:=HX.out;rw[hx10] at this;exact of_decide_eq_false this);have HST':=lH hst';clear hst';go_wp2_with fail
       go_roundw
       case rel=>exact⟨k+1,f,ls,cur',turn',by omega,by go_num,rfl,HST'.out,HO.out,HB.out⟩
       case measure=>simp[intOf];omega
  ·have hk1:decide ((k:Int)<(S.size:Int))=false:=dF (by omega)
   have hkn:k=S.size:=by omega
   have hw:=cJ.stop HST.out (by have:=HN.out;omega);rw[<-HFK.out] at hw;have HF:=lH hw;have hFN:decide (f<S.size)=FK:=by rw[<-hkn];exact hFI
   clear hw;have HKN:=lH hkn;go_wp2_with fail
   exact EW (ei Tryz.results81 _ _ _) rfl ⟨u8,by rw[HF.out,HKN.out];rfl,by rw[HF.out];exact HO.out,HB.out⟩
end Go.Proofs.YthjbodpeckebiaaGreatDoor
-- Read22
namespace Go.Proofs.YthjbodpeckebiaaGreatDoor
open Go.RowKit
structure yO where
 hd:Hd
 used:Int
 fin:Bool
 e:Int
 begun:Bool
def yO.row (g:yO) (f:Value):Array Value:=#[.string g.hd.m,.string g.hd.t,.int .i64 g.hd.k,.int .i64 g.hd.n,.string g.hd.r,f,.int .i64 g.used,.bool g.fin,.int .i64 g.e,.bool g.begun]
def gotZ (q:Bool×Nat×Int) (z:Option ((Hd×Int)×Nat)×List ByteArray):yO:=
 match z with
 | (some (h,used),_)=>⟨h.1,used,true,h.2,true⟩
 | (none,got)=>⟨cN,q.2.1,false,q.2.2,q.1||!got.isEmpty⟩
def eG (kind fields fold most:Int) (l:List UInt8):yO:=gotZ (cP most l 0 [] false).2 (dE kind fields fold (cP most l 0 [] false).1 0 [])
theorem jw {w:World} {g:Nat} {t:TypeId} {x0 x1 x2 x3 x4 x5 x6 x7 x8 x9:Value} (h:af w g #[x0,x1,x2,x3,x4,x5,x6,x7,x8,x9] t) (y0 y1 y2 y3 y4 y5 y6 y7 y8 y9:Value):
 af ((((((((((w.setCell ⟨g,0,none⟩ y0).setCell ⟨g,1,none⟩ y1).setCell ⟨g,2,none⟩ y2).setCell ⟨g,3,none⟩ y3).setCell ⟨g,4,none⟩ y4).setCell ⟨g,5,none⟩ y5).setCell ⟨g,6,none⟩ y6).setCell ⟨g,7,none⟩ y7).setCell ⟨g,8,none⟩ y8).setCell ⟨g,9,none⟩ y9) g #[y0,y1,y2,y3,y4,y5,y6,y7,y8,y9] t:=by
 have:=((((((((((h.set 0 (y0)).set 1 (y1)).set 2 (y2)).set 3 (y3)).set 4 (y4)).set 5 (y5)).set 6 (y6)).set 7 (y7)).set 8 (y8)).set 9 (y9));simpa using this
theorem gd {w w':World} {B g:Nat} (h:Below B w w') (hg:B<=g) (y0 y1 y2 y3 y4 y5 y6 y7 y8 y9:Value):
 Below B w ((((((((((w'.setCell ⟨g,0,none⟩ y0).setCell ⟨g,1,none⟩ y1).setCell ⟨g,2,none⟩ y2).setCell ⟨g,3,none⟩ y3).setCell ⟨g,4,none⟩ y4).setCell ⟨g,5,none⟩ y5).setCell ⟨g,6,none⟩ y6).setCell ⟨g,7,none⟩ y7).setCell ⟨g,8,none⟩ y8).setCell ⟨g,9,none⟩ y9):=
 (((((((((h.setCell (p:=⟨g,0,none⟩) hg y0).setCell (p:=⟨g,1,none⟩) hg y1).setCell (p:=⟨g,2,none⟩) hg y2).setCell (p:=⟨g,3,none⟩) hg y3).setCell (p:=⟨g,4,none⟩) hg y4).setCell (p:=⟨g,5,none⟩) hg y5).setCell (p:=⟨g,6,none⟩) hg y6).setCell (p:=⟨g,7,none⟩) hg y7).setCell (p:=⟨g,8,none⟩) hg y8).setCell (p:=⟨g,9,none⟩) hg y9
theorem yR {w:World} {B:Nat} {e:TypeId} {size:Nat} {v:Value} {n:Nat} {xs:List Value} (h:w.ownsRow B e size v n xs) {g:Nat} (hg:g<B) (y0 y1 y2 y3 y4 y5 y6 y7 y8 y9:Value):
 ((((((((((w.setCell ⟨g,0,none⟩ y0).setCell ⟨g,1,none⟩ y1).setCell ⟨g,2,none⟩ y2).setCell ⟨g,3,none⟩ y3).setCell ⟨g,4,none⟩ y4).setCell ⟨g,5,none⟩ y5).setCell ⟨g,6,none⟩ y6).setCell ⟨g,7,none⟩ y7).setCell ⟨g,8,none⟩ y8).setCell ⟨g,9,none⟩ y9).ownsRow B e size v n xs:=
 aD (aD (aD (aD (aD (aD (aD (aD (aD (aD h hg 0 y0) hg 1 y1) hg 2 y2) hg 3 y3) hg 4 y4) hg 5 y5) hg 6 y6) hg 7 y7) hg 8 y8) hg 9 y9
theorem xm {got:List ByteArray} {t:ByteArray} {A:Nat} (h:dX got+got.length<=A):dX (got++[t])+(got++[t]).length<=A+t.size+2:=by
 rw[ic,EY];simp only[GL];omega
theorem rS {n k:Nat} (h:k<n):n - (intOf (.int .i64 ((k:Int)+1))).toNat<n - (intOf (.int .i64 (k:Int))).toNat:=by
 simp[intOf];omega
theorem zO {A T:Nat} (h:A+T+2<=65536):wrap64 ((A:Int)+(T:Int))=(A:Int)+(T:Int)/\wrap64 ((A:Int)+(T:Int)+2)=(A:Int)+(T:Int)+2:=⟨FY _ ⟨by omega,by omega⟩,FY _ ⟨by omega,by omega⟩⟩
theorem ux (kind a fields c d fold:Int) (S:ByteArray) (w:World) (hS:S.size<=65536):
 Calls Tryz.prog 56 #[.string S,.int .i64 kind,.agg #[.int .i64 a,.int .i64 fields,.int .i64 c,.int .i64 d,.int .i64 fold]] w fun e w'=>∃f,e=.returned (.agg ((eG kind fields fold a S.data.toList).row f))/\ao w' w.heap.size f (eG kind fields fold a S.data.toList).hd.fs/\Below w.heap.size w w':=by
 obtain⟨G,hG⟩:∃G,G=eG kind fields fold a S.data.toList:=⟨_,rfl⟩;rw[<-hG];have hR16:=fun(W:World)=>j7 S a W (by omega);have hsm:=jx a S.data.toList 0 [] false;unfold eG at hG;obtain⟨R,hR⟩:∃R,R=cP a S.data.toList 0 [] false:=⟨_,rfl⟩;rw[<-hR] at hG hsm hR16
 have hsm:db R.1<=65536:=by
  rw[<-Lib.size_eq] at hsm;simp at hsm;omega
 obtain⟨R1,WI,US,ER⟩:=R;have HG:=lH hG;have HR16:=lH hR16;have HSM:=lH hsm;have HB0:=lH (dr w (.cells #[.int .i64 a,.int .i64 fields,.int .i64 c,.int .i64 d,.int .i64 fold] 24) (.cells #[.string ⟨#[]⟩,.string ⟨#[]⟩,.int .i64 0,.int .i64 0,.string ⟨#[]⟩,.slice none 0 0,.int .i64 0,.bool false,.int .i64 0,.bool false] 105));have KL0:=lH ((af.new w #[.int .i64 a,.int .i64 fields,.int .i64 c,.int .i64 d,.int .i64 fold] 24).alloc (.cells #[.string ⟨#[]⟩,.string ⟨#[]⟩,.int .i64 0,.int .i64 0,.string ⟨#[]⟩,.slice none 0 0,.int .i64 0,.bool false,.int .i64 0,.bool false] 105));have KG0:=lH (cM w #[.int .i64 a,.int .i64 fields,.int .i64 c,.int .i64 d,.int .i64 fold] #[.string ⟨#[]⟩,.string ⟨#[]⟩,.int .i64 0,.int .i64 0,.string ⟨#[]⟩,.slice none 0 0,.int .i64 0,.bool false,.int .i64 0,.bool false] 24 105);clear hG hR hR16;clear hsm;go_enter Tryz.func56,Tryz.ntmps56
 go_wp2_with (go_at_call 81;refine(HR16.out _).mono ?_;rintro e0 w1 ⟨v1,rfl,ho1,hb1⟩;have HB1:=lH (bZ hb1);have KL1:=lH (KL0.out.call hb1);have KG1:=lH (KG0.out.call hb1);have HO1:=lH ho1.strs;have hz1:=hb1.size;clear ho1 hb1)
 have HZ1:Hid (w.heap.size+2<=w1.heap.size):=by show _<=_;simp at hz1;omega
 obtain⟨pv,cv,rfl,hcell⟩:=HO1.out;have HCE:=lH hcell;rw[F9];clear hcell hz1 HO1;have HO2:=lH (ap.empty w1);have HB2:=lH ((EK w1.heap.size w1).alloc (nR _) (.cells #[] 9));go_loopw [11,12,13] (fun u11 u12 u13 wr=>∃(k:Nat) (got:List ByteArray),k<=R1.length/\u13=.int .i64 k/\u12=.int .i64 (db (R1.take k))/\ap wr w1.heap.size u11 got/\dE kind fields fold R1 0 []=dE kind fields fold (R1.drop k) (db (R1.take k)) got/\dX got+got.length<=db (R1.take k)/\Below w1.heap.size w1 wr) (fun _ _ u13 _=>R1.length - (intOf u13).toNat)
 case atStart=>exact⟨0,[],EN _,rfl,rfl,HO2.out,rfl,EN _,HB2.out⟩
 case round=>
  obtain⟨k,got,hk,rfl,rfl,hown,hpre,htg,hbel⟩:=hrel;obtain⟨pg,cg,rfl⟩:=hown.shape;have hRl:R1.length<=65536:=nT (oK R1) HSM.out;have HO:=lH hown;have HP:=lH hpre;have HB:=lH hbel;have HBS:=lH hbel.size;have KL:=lH (KL1.out.call hbel);have KG:=lH (KG1.out.call hbel);obtain⟨AT,hAT⟩:∃n,n=db (R1.take k):=⟨_,rfl⟩;rw[<-hAT] at htg ⊢;have HAT:=lH hAT;have HTG:=lH htg;have hatl:AT<=65536:=by rw[hAT];exact nT (fm R1 k) HSM.out
  clear hown hpre hbel hAT htg;by_cases hlt:k<R1.length
  ·have hk1:decide ((k:Int)<(R1.length:Int))=true:=dT (by omega)
   obtain⟨b,off,hp,h1⟩:=HCE.out k (by rw[F9];exact hlt);subst hp;obtain⟨x,hx⟩:∃x,x=R1[k]:=⟨_,rfl⟩;rw[List.getElem_map,<-hx] at h1;have h2:=(bL HB.out b _ (ET _ _ h1)).trans h1;have hnx:db (R1.take (k+1))=AT+x.length+2:=by rw[E8 hlt,jB,<-HAT.out,<-hx]
   have hnl:AT+x.length+2<=65536:=by rw[<-hnx];exact nT (fm R1 (k+1)) HSM.out
   have hsc:dE kind fields fold R1 0 []=dE kind fields fold (x :: R1.drop (k+1)) AT got:=by rw[HP.out,Fa hlt,<-hx,HAT.out]
   rw[dE] at hsc;obtain⟨t,ht⟩:∃t,t=aw x:=⟨_,rfl⟩;have hts:t.size=x.length:=by rw[ht,dn]
   rw[<-ht] at h2 hsc;obtain⟨hw1,hw2⟩:=zO (A:=AT) (T:=t.size) (by rw[hts];exact hnl);have HNX:=lH hnx;have HSC:=lH hsc;have HTS:=lH hts;have HNL:=lH hnl;clear h1 hnx hsc hx;by_cases hz:x=[]
   ·subst hz
    have he:t.toList.isEmpty=true:=by rw[ht,ah];rfl
    have hts0:t.size=0:=hts;have HT0:=lH hts0;clear ht hts hnl hts0;by_cases hg:got≠[]\/kind=2
    ·have hGe:G=⟨(aH kind fields fold got).1,(AT:Int)+(t.size:Int)+2,true,(aH kind fields fold got).2,true⟩:=by
      rw[HG.out,HSC.out,if_neg (by simp),if_pos hg,HT0.out];unfold gotZ;simp
     have HPR:=lH (fun(W:World) (hs:cQ W (.slice pg got.length cg) got)=>tW kind a fields c d fold (.slice pg got.length cg) HO.out.capok got W hs (nT (nT (Nat.le_add_left _ _) HTG.out) (nT hatl (by decide))) (nT (nT (Fj _ _) HTG.out) (nT hatl (by decide))));obtain⟨Q,hQ⟩:∃Q,Q=aH kind fields fold got:=⟨_,rfl⟩;rw[<-hQ] at hGe HPR;obtain⟨⟨qm,qt,qk,qn,qr,qf⟩,qe⟩:=Q;subst hGe;simp only[Hd.row] at HPR;have HSO:=lH HO.out.strs
     have hor:(∃m,got.length=m+1)\/(got.length=0/\(kind==2)=true):=by
      cases hpa:got with
      | nil=>
        rcases hg with hg|hg
        ·exact absurd hpa hg
        ·exact Or.inr ⟨rfl,by subst hg;rfl⟩
      | cons y r=>exact Or.inl ⟨r.length,rfl⟩
     obtain⟨q0,q1,q2,q3,q4⟩:=bc5 KL.out 0 1 2 3 4;simp at q0 q1 q2 q3 q4;clear hQ hg;rcases hor with ⟨m,hm⟩|⟨hm,hk2⟩;all_goals rw[hm] at HPR HSO ⊢
     all_goals clear hm
     all_goals go_wp2_with (go_at_call 82;refine(HPR.out _ HSO.out).mono ?_;rintro e3 w3 ⟨f3,rfl,ho3,hb3⟩;obtain⟨pf,cf,rfl⟩:=aC ho3;simp only at ho3 ⊢;have hbn:=(EK w3.heap.size w3).alloc (nR _) (.cells #[.string qm,.string qt,.int .i64 qk,.int .i64 qn,.string qr,.slice pf qf.length cf] 44);have KH:=lH (af.new w3 #[.string qm,.string qt,.int .i64 qk,.int .i64 qn,.string qr,.slice pf qf.length cf] 44);have KG3:=lH ((KG.out.call hb3).call hbn);have HO3:=lH (ao.call ho3 hbn);have HB3:=lH ((HB.out.trans (hb3.mono HB.out.size)).trans (hbn.mono (nT HB.out.size hb3.size)));have hz3:=hb3.size;obtain⟨x0,x1,x2,x3,x4,x5⟩:=Aw KH.out 0 1 2 3 4 5;simp at x0 x1 x2 x3 x4 x5;have z0:=KG3.out.cell 0;have zf0:=KG3.out.froz 0;have z1:=KG3.out.cell 1;have zf1:=KG3.out.froz 1;have z2:=KG3.out.cell 2;have zf2:=KG3.out.froz 2;have z3:=KG3.out.cell 3;have zf3:=KG3.out.froz 3;have z4:=KG3.out.cell 4;have zf4:=KG3.out.froz 4;have z5:=KG3.out.cell 5;have zf5:=KG3.out.froz 5;have z6:=KG3.out.cell 6;have zf6:=KG3.out.froz 6;have z7:=KG3.out.cell 7;have zf7:=KG3.out.froz 7;have z8:=KG3.out.cell 8;have zf8:=KG3.out.froz 8;have z9:=KG3.out.cell 9;have zf9:=KG3.out.froz 9;simp at z0 z1 z2 z3 z4 z5 z6 z7 z8 z9;clear hb3 ho3 hbn q0 q1 q2 q3 q4)
     all_goals have KF:=jw KG3.out (.string qm) (.string qt) (.int .i64 qk) (.int .i64 qn) (.string qr) (.slice pf qf.length cf) (.int .i64 ((AT:Int)+(t.size:Int)+2)) (.bool true) (.int .i64 qe) (.bool true)
     all_goals refine EW (results_cell_row (Tryz.results56) _ _ (w.heap.size+1) 105 _ (0,0) _ rfl KF Tryz.underlying105 rfl (by kernel_rfl)) rfl ?_
     all_goals exact⟨.slice pf qf.length cf,rfl,ao.lower (yR HO3.out (FC (GO _) (nT HZ1.out HBS.out)) _ _ _ _ _ _ _ _ _ _) (nT (nT (Fj _ 2) HZ1.out) HBS.out),gd (HB1.out.trans (HB3.out.mono HB1.out.size)) (FV _) _ _ _ _ _ _ _ _ _ _⟩
    ·have hkd:kind≠2:=fun e=>hg (Or.inr e)
     have hk2:(kind==2)=false:=by rw[EJ];exact hkd
     have hgn:got=[]:=Decidable.not_not.1 (fun e=>hg (Or.inl e));subst hgn;have hn:dE kind fields fold R1 0 []=dE kind fields fold (R1.drop (k+1)) (AT+2) []:=by rw[HSC.out,if_neg (by simp),if_neg hg]
     have HN:=lH hn;clear hg hn hkd;go_wp2_with fail
     go_roundw
     case rel=>exact⟨k+1,[],hlt,by go_num,by (try rw[hw2]);rw[HNX.out,HT0.out];(first|rfl|simp),HO.out,by rw[HNX.out];exact HN.out,EN _,HB.out⟩
     case measure=>first|exact rS hlt|(simp[intOf];omega)
   ·have he:t.toList.isEmpty=false:=by
     rw[ah,ht];cases x with
     | nil=>exact absurd rfl hz
     | cons y r=>rfl
    have hn:dE kind fields fold R1 0 []=dE kind fields fold (R1.drop (k+1)) (AT+x.length+2) (got++[t]):=by rw[HSC.out,if_pos hz]
    have HN:=lH hn;have hgl:got.length<=1000000:=nT (nT (Nat.le_add_left _ _) HTG.out) (nT hatl (by decide));clear hz hn ht hts hnl;go_wp2_with (at_builtin;refine aF rfl _ _ rfl rfl HO.out t rfl hgl HBS.out ?_;intro p4 c4 w4 ho4 _ hb4;have HO4:=lH ho4;have HB4:=lH hb4;clear ho4 hb4)
    go_roundw
    case rel=>
     refine⟨k+1,got++[t],hlt,by go_num,by (try rw[hw2]);rw[HNX.out,<-HTS.out];(first|rfl|simp),HO4.out,by rw[HNX.out];exact HN.out,?_,HB.out.trans HB4.out⟩;rw[HNX.out,<-HTS.out];exact xm HTG.out
    case measure=>first|exact rS hlt|(simp[intOf];omega)
  ·have hk1:decide ((k:Int)<(R1.length:Int))=false:=dF (by omega)
   have hGe:G=⟨cN,US,false,ER,WI||!got.isEmpty⟩:=by
    rw[HG.out,HP.out,E6 (by omega)];rfl
   subst hGe;have z0:=KG.out.cell 0;have zf0:=KG.out.froz 0;have z1:=KG.out.cell 1;have zf1:=KG.out.froz 1;have z2:=KG.out.cell 2;have zf2:=KG.out.froz 2;have z3:=KG.out.cell 3;have zf3:=KG.out.froz 3;have z4:=KG.out.cell 4;have zf4:=KG.out.froz 4;have z5:=KG.out.cell 5;have zf5:=KG.out.froz 5;have z6:=KG.out.cell 6;have zf6:=KG.out.froz 6;have z7:=KG.out.cell 7;have zf7:=KG.out.froz 7;have z8:=KG.out.cell 8;have zf8:=KG.out.froz 8;have z9:=KG.out.cell 9;have zf9:=KG.out.froz 9;simp at z0 z1 z2 z3 z4 z5 z6 z7 z8 z9;clear hatl;have HBZ:=lH (HB1.out.trans (HB.out.mono HB1.out.size));cases got with
   | nil=>
     cases WI
     ·go_wp2_with fail
      have KF:=jw KG.out (.string ⟨#[]⟩) (.string ⟨#[]⟩) (.int .i64 0) (.int .i64 0) (.string ⟨#[]⟩) (.slice none 0 0) (.int .i64 (US:Int)) (.bool false) (.int .i64 ER) (.bool false);refine EW (results_cell_row (Tryz.results56) _ _ (w.heap.size+1) 105 _ (0,0) _ rfl KF Tryz.underlying105 rfl (by kernel_rfl)) rfl ?_;exact⟨.slice none 0 0,rfl,ao.start _ _,gd HBZ.out (FV _) _ _ _ _ _ _ _ _ _ _⟩
     ·go_wp2_with fail
      have KF:=jw KG.out (.string ⟨#[]⟩) (.string ⟨#[]⟩) (.int .i64 0) (.int .i64 0) (.string ⟨#[]⟩) (.slice none 0 0) (.int .i64 (US:Int)) (.bool false) (.int .i64 ER) (.bool true);refine EW (results_cell_row (Tryz.results56) _ _ (w.heap.size+1) 105 _ (0,0) _ rfl KF Tryz.underlying105 rfl (by kernel_rfl)) rfl ?_;exact⟨.slice none 0 0,rfl,ao.start _ _,gd HBZ.out (FV _) _ _ _ _ _ _ _ _ _ _⟩
   | cons y r=>
     have hlen:(y :: r).length=r.length+1:=rfl;rw[hlen];cases WI
     all_goals go_wp2_with fail
     all_goals have KF:=jw KG.out (.string ⟨#[]⟩) (.string ⟨#[]⟩) (.int .i64 0) (.int .i64 0) (.string ⟨#[]⟩) (.slice none 0 0) (.int .i64 (US:Int)) (.bool false) (.int .i64 ER) (.bool true)
     all_goals refine EW (results_cell_row (Tryz.results56) _ _ (w.heap.size+1) 105 _ (0,0) _ rfl KF Tryz.underlying105 rfl (by kernel_rfl)) rfl ?_
     all_goals exact⟨.slice none 0 0,rfl,ao.start _ _,gd HBZ.out (FV _) _ _ _ _ _ _ _ _ _ _⟩
end Go.Proofs.YthjbodpeckebiaaGreatDoor
-- HdD
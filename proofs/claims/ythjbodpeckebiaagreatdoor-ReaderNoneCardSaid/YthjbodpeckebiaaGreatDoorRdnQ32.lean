/- Texts packed for one claim, 32 of 48: HHead HdA RdP Read16 Read22 HdD. -/
import Derived.Test.YthjbodpeckebiaaGreatDoorRdnQ20
import Derived.Lib.LazyBuf
import Derived.Test.YthjbodpeckebiaaGreatDoorRdnQ19
set_option maxRecDepth 100000
set_option maxHeartbeats 16000000
set_option linter.unusedSimpArgs false
set_option linter.unusedVariables false
-- HHead
namespace Go.Proofs.YthjbodpeckebiaaGreatDoor
open Go.RowKit
theorem my {w:World} {b g B:Nat} {vl va vf:Value} {kind a fields c d fold:Int} {p:cY} (h:aI w b g B vl va vf kind a fields c d fold p):
 Calls Tryz.prog 36 #[.pointer (some ⟨b,0,none⟩)] w fun e w'=>e=.returned (.bool (!p.all.isEmpty||p.fin||p.ln.within))/\w=w':=by
 have a0:w.cell? ⟨b,0,none⟩=some (.pointer (some ⟨g,0,none⟩)):=h.k.cell 0;have a7:w.cell? ⟨b,7,none⟩=some va:=h.k.cell 7;have a8:w.cell? ⟨b,8,none⟩=some (.bool p.fin):=h.k.cell 8;have HW:=lH (lx h.l);obtain⟨pp,cc,hsh⟩:=h.o.shape;rw[hsh] at a7;clear h hsh;obtain⟨F,hF⟩:∃F,F=p.fin:=⟨_,rfl⟩;obtain⟨Z,hZ⟩:∃F,F=p.ln.within:=⟨_,rfl⟩;rw[<-hF] at a8 ⊢;rw[<-hZ] at HW ⊢;clear hF hZ;cases hl:p.all with
 | nil=>
   rw[hl] at a7;cases F
   ·go_enter Tryz.func36,Tryz.ntmps36
    go_wp2_with (go_at_call 62;refine HW.out.mono ?_;rintro e1 w1 ⟨rfl,rfl⟩)
    go_ret;exact⟨rfl,rfl⟩
   ·go_enter Tryz.func36,Tryz.ntmps36
    go_wp2_with (go_at_call 62;refine HW.out.mono ?_;rintro e1 w1 ⟨rfl,rfl⟩)
    go_ret;exact⟨rfl,rfl⟩
 | cons x r=>
   rw[hl] at a7;have hlen:(x :: r).length=r.length+1:=rfl;rw[hlen] at a7;go_enter Tryz.func36,Tryz.ntmps36
   go_wp2_with (go_at_call 62;refine HW.out.mono ?_;rintro e1 w1 ⟨rfl,rfl⟩)
   go_ret;exact⟨rfl,rfl⟩
theorem qL (l:List Fd):∀u∈bH l,u.oneCell'=true:=by
 intro u hu;unfold bH at hu;obtain⟨f,_,hf⟩:=List.mem_flatMap.1 hu;simp at hf;rcases hf with rfl|rfl<;>rfl
theorem jy (v:Value) (l:List Fd) (w:World) (h:bL w v l) (hl:l.length<=1000000):
 Calls Tryz.prog 45 #[v] w fun e w'=>∃p c,e=.returned (.slice p l.length c)/\aj w' w.heap.size (.slice p l.length c) l/\Below w.heap.size w w':=by
 obtain⟨p,c,rfl,hc⟩:=h;have q27:∀(W:World) (a:Option Addr) (n c:Nat),(binOp .eql 42 (.slice a n c) (.slice none 0 0)).run Tryz.prog W=.ok (.bool a.isNone) W:=fun W a n c=>Lib.run_eql_slice_nil W _ _ a n c 0 0 Tryz.underlying42;cases p with
 | none=>
   have h0:l=[]:=by
    cases l with
    | nil=>rfl
    | cons x r=>
      obtain⟨b,off,hp,_⟩:=hc 0 (by simp);cases hp
   subst h0;clear hc;go_enter Tryz.func45,Tryz.ntmps45
   go_wp2_with fail
   go_ret;exact⟨none,0,rfl,aj.start _ _,tU _ _⟩
 | some ad=>
   have hnews:∀j u,(bH l)[j]? = some u->(w.alloc (.cells #[] 95)).cell? (ad.add j)=some u:=by
    intro j u hj
    have hlj:j<(bH l).length:=by
     rcases uG j (bH l).length with h|h
     ·exact h
     ·rw[uH h] at hj
      cases hj
    have hfl:(bH l).length=l.length*2:=cT l;have hk:j / 2<l.length:=by omega
    obtain⟨b,off,hp,c1,c2⟩:=hc (j / 2) hk;injection hp with hp
    subst hp;have hadd:(⟨b,off,none⟩:Addr).add j=⟨b,off+j,none⟩:=by unfold Addr.add;split<;>simp_all
    rw[hadd];have hw:∀q x,w.cell? q=some x->(w.alloc (.cells #[] 95)).cell? q=some x:=fun q x hq=>eW (P:=fun _=>False) ((aa.refl _ w).alloc _) id hq;refine hw _ _ ?_;have hat:=gY l (j / 2) hk;rcases Nat.mod_two_eq_zero_or_one j with hm|hm
    ·have e:j=2*(j / 2):=by omega
     rw[<-e] at hat c1;rw[c1,<-hj,hat.1]
    ·have e:j=2*(j / 2)+1:=by omega
     have e2:off+2*(j / 2)+1=off+j:=by omega
     rw[<-e] at hat;rw[e2] at c2;rw[c2,<-hj,hat.2]
   have HC:=lH hnews;have HL:=lH hl;clear hc hnews hl;obtain⟨i0,hi,hz0,hz1,hz2⟩:=info_parts iw;go_enter Tryz.func45,Tryz.ntmps45
   go_wp2_with (at_builtin;refine wpList_append_own _ rfl _ _ 42 rfl w.heap.size 95 i0 _ 2 32 Tryz.underlying42 hi hz0 hz1 hz2 rfl (by decide) _ _ _ rfl (aj.empty w) ad l.length c (bH l) rfl ?c1 HC.out ?c2 ?c3 ?c4 ?c5 ?_)
   case c1=>exact cT l
   case c2=>exact qL l
   case c3=>have:=HL.out;unfold maxLen;simp;omega
   case c4=>have:=HL.out;simp;omega
   case c5=>simp
   intro v' w1 hown1 hg _
   have hown2:World.ownsRow w1 w.heap.size 95 2 v' l.length (bH l):=by
    have h:=hown1;rw[show bH []=[] from rfl] at h;simpa using h
   obtain⟨p',c',rfl⟩:=aV hown2;go_wp2_with fail
   go_ret;exact⟨p',c',rfl,hown2,((tU _ w).alloc (nR _) _).grown hg (by simp) (fun k hk=>by simp[Value.ownBlock] at hk;omega)⟩
def jC (p:cY):Hd:=if (p.fin&&p.e==0)=true then p.hd else cR
theorem oV {w:World} {b g B:Nat} {vl va vf:Value} {kind a fields c d fold:Int} {p:cY} (h:aI w b g B vl va vf kind a fields c d fold p) (hl:p.hd.fs.length<=1000000):
 Calls Tryz.prog 49 #[.pointer (some ⟨b,0,none⟩)] w fun e w'=>∃f,e=.returned (.agg ((jC p).row f))/\aj w' w.heap.size f (jC p).fs/\Below w.heap.size w w':=by
 obtain⟨DN,hDN⟩:∃D,D=(p.fin&&p.e==0):=⟨_,rfl⟩;have hbl:b<w.heap.size:=h.k.lt;have HD:=lH (fun(W:World) (hW:aI W b g B vl va vf kind a fields c d fold p)=>jG hW);rw[<-hDN] at HD;have h1:aI (w.alloc (.cells #[.string ⟨#[]⟩,.string ⟨#[]⟩,.int .i64 0,.int .i64 0,.string ⟨#[]⟩,.slice none 0 0] 44)) b g B vl va vf kind a fields c d fold p:=h.touch (P:=fun _=>False) ((aa.refl _ w).alloc _) id id (fun _ _=>id);have H1:=lH h1;cases DN with
 | false=>
   have hR:jC p=cR:=by unfold jC;rw[<-hDN];rfl
   have HR:=lH hR;rw[hR];clear hR hDN h h1;go_enter Tryz.func49,Tryz.ntmps49
   go_wp2_with (go_at_call 48;refine(HD.out _ H1.out).mono ?_;rintro e1 w1 ⟨rfl,h1⟩;subst h1)
   refine ub (results_cell_row (Tryz.results49) _ _ w.heap.size 44 (cR.row aG) (0,0) _ rfl ?_ Tryz.underlying44 rfl (by kernel_rfl)) rfl ⟨aG,rfl,?_,?_⟩
   ·exact ac.new _ _ _
   ·exact aj.start _ _
   ·exact(tU w.heap.size w).alloc (nR _) _
 | true=>
   have hR:jC p=p.hd:=by unfold jC;rw[<-hDN];rfl
   rw[hR];obtain⟨Q,hQ⟩:∃Q,Q=p.hd:=⟨_,rfl⟩;have hk:=h1.k;have hof:=h1.f;rw[<-hQ] at hof hl ⊢;obtain⟨qm,qt,qk,qn,qr,qf⟩:=Q;obtain⟨a9,a10,a11,a12,a13,a14⟩:=bc6 hk 9 10 11 12 13 14;simp[dP] at a9 a10 a11 a12 a13 a14;rw[<-hQ] at a9 a10 a11 a12 a13;simp only at a9 a10 a11 a12 a13 hof hl;obtain⟨pv,cv,rfl⟩:=aV hof;have HC:=lH (fun(V:World) (hV:bL V (.slice pv qf.length cv) qf)=>jy _ qf V hV hl);have HF:=lH ((hof.alloc (.cells #[.string qm,.string qt,.int .i64 qk,.int .i64 qn,.string qr,.slice pv qf.length cv] 44)).flds);clear hR hDN h h1 hof hk hQ hl;go_enter Tryz.func49,Tryz.ntmps49
   go_wp2_with (first|(go_at_call 48;refine(HD.out _ H1.out).mono ?_;rintro e1 w1 ⟨rfl,h1⟩;subst h1)|(go_at_call 45;refine(HC.out _ HF.out).mono ?_;rintro e1 w2 ⟨p2,c2,rfl,ho2,hb2⟩;have KZ:=lH (((ac.new w #[.string ⟨#[]⟩,.string ⟨#[]⟩,.int .i64 0,.int .i64 0,.string ⟨#[]⟩,.slice none 0 0] 44).alloc (.cells #[.string qm,.string qt,.int .i64 qk,.int .i64 qn,.string qr,.slice pv qf.length cv] 44)).call hb2);have KR:=lH ((eq w #[.string ⟨#[]⟩,.string ⟨#[]⟩,.int .i64 0,.int .i64 0,.string ⟨#[]⟩,.slice none 0 0] #[.string qm,.string qt,.int .i64 qk,.int .i64 qn,.string qr,.slice pv qf.length cv] 44 44).call hb2);have HO2:=lH ho2;have HB2:=lH (de hb2);have hs2:=hb2.size;clear ho2 hb2 a9 a10 a11 a12 a13 a14;have z0:=KZ.out.cell 0;have zf0:=KZ.out.froz 0;have z1:=KZ.out.cell 1;have zf1:=KZ.out.froz 1;have z2:=KZ.out.cell 2;have zf2:=KZ.out.froz 2;have z3:=KZ.out.cell 3;have zf3:=KZ.out.froz 3;have z4:=KZ.out.cell 4;have zf4:=KZ.out.froz 4;have z5:=KZ.out.cell 5;have zf5:=KZ.out.froz 5;obtain⟨r0,r1,r2,r3,r4,r5⟩:=bc6 KR.out 0 1 2 3 4 5;have rf5:=KR.out.froz 5;simp at z0 z1 z2 z3 z4 z5 r0 r1 r2 r3 r4 r5))
   have KZ2:=KZ.out.far (p:=⟨w.heap.size+1,5,none⟩) (show w.heap.size≠w.heap.size+1 by omega) (.slice p2 qf.length c2);refine ub (results_cell_row (Tryz.results49) _ _ w.heap.size 44 _ (0,0) _ rfl (cI KZ2 (.string qm) (.string qt) (.int .i64 qk) (.int .i64 qn) (.string qr) (.slice p2 qf.length c2)) Tryz.underlying44 rfl (by kernel_rfl)) rfl ⟨.slice p2 qf.length c2,rfl,?_,?_⟩
   ·exact aj.lower (lK (cB HO2.out (by simp) 5 _) (by simp;omega) _ _ _ _ _ _) (by simp;omega)
   ·exact bG (HB2.out.setCell (p:=⟨w.heap.size+1,5,none⟩) (uN _) _) (nR _) _ _ _ _ _ _
end Go.Proofs.YthjbodpeckebiaaGreatDoor
-- HdA
-- RdP
namespace Go.Proofs.YthjbodpeckebiaaGreatDoor
open Go.RowKit
section
variable {most:Int} {l:List UInt8} {R:List (List UInt8)×Bool×Nat×Int} {k f:Nat} {ls:List (List UInt8)} {cur:List UInt8} {turn:Bool}
end
end Go.Proofs.YthjbodpeckebiaaGreatDoor
-- Read16
namespace Go.Proofs.YthjbodpeckebiaaGreatDoor
open Go.RowKit
end Go.Proofs.YthjbodpeckebiaaGreatDoor
-- Read22
namespace Go.Proofs.YthjbodpeckebiaaGreatDoor
open Go.RowKit
end Go.Proofs.YthjbodpeckebiaaGreatDoor
-- HdD
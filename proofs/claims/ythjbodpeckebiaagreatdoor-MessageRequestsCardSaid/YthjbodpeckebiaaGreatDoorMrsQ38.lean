/- Texts packed for one claim, 38 of 52: BdQ Gath BodyLives. -/
import Derived.Test.YthjbodpeckebiaaGreatDoorMrsQ29
import Derived.Test.YthjbodpeckebiaaGreatDoorMrsQ32
import Derived.Test.YthjbodpeckebiaaGreatDoorMrsQ5
set_option maxRecDepth 100000
set_option maxHeartbeats 16000000
set_option linter.unusedSimpArgs false
set_option linter.unusedVariables false
-- BdQ
namespace Go.Proofs.YthjbodpeckebiaaGreatDoor
open Go.RowKit
theorem uV {w:World} {D n0:Nat} {m:Lm} {s:ar} {V:cU} (h:an w D n0 m s V) (hl:s.out.length<=1000000):
 Calls Tryz.prog 41 #[.pointer (some ⟨D,0,none⟩)] w fun e w'=>∃vo V',e=.returned vo/\an w' D n0 m (bE (bB s)) V'/\cB w' n0 vo (bB s).out/\aS w w' D V V'/\V'.vo=.slice none 0 0/\(s.opens=false->vo=V.vo):=by
 have y11:w.cell? ⟨D,11,none⟩=some (.bool s.till):=h.k.cell 11;have H:=lH h;have HL:=lH hl;have HOP:=lH (lN h);cases ho:s.opens with
 | false=>
   have hc:bB s=s:=by unfold bB;rw[if_neg (by rw[ho];decide)]
   rw[hc];rw[ho] at HOP;clear h hl hc ho;go_enter Tryz.func41,Tryz.ntmps41
   go_wp2_with (first|(go_at_call 64;refine HOP.out.mono ?_;rintro e1 w1 ⟨rfl,rfl⟩)|(go_at_call 65;refine(ij H.out).mono ?_;rintro e2 w2 ⟨rfl,h2,o2,g2⟩;have H2:=lH h2;have O2:=lH o2;have G2:=lH g2;clear h2 o2 g2))
   go_ret;exact⟨_,_,rfl,H2.out,O2.out,G2.out,rfl,fun _=>rfl⟩
 | true=>
   rw[ho] at HOP;cases ht:s.till with
   | true=>
     have hc:bB s=s.ends:=by unfold bB;rw[if_pos ho,if_pos ht]
     rw[hc];rw[ht] at y11;clear h hl hc ho ht;go_enter Tryz.func41,Tryz.ntmps41
     go_wp2_with (first|(go_at_call 64;refine HOP.out.mono ?_;rintro e1 w1 ⟨rfl,rfl⟩)|(go_at_call 66;refine(lz H.out HL.out).mono ?_;rintro e3 w3 ⟨rfl,vo3,h3,g3⟩;have H3:=lH h3;have G3:=lH g3;clear h3 g3)|(go_at_call 65;refine(ij H3.out).mono ?_;rintro e2 w2 ⟨rfl,h2,o2,g2⟩;have H2:=lH h2;have O2:=lH o2;have G2:=lH g2;clear h2 o2 g2))
     go_ret;exact⟨_,_,rfl,H2.out,O2.out,G3.out.trans G2.out,rfl,fun e=>(by cases e)⟩
   | false=>
     have hc:bB s=s.wrong 19:=by unfold bB;rw[if_pos ho,if_neg (by rw[ht];decide)]
     rw[hc];rw[ht] at y11;clear h hl hc ho ht;go_enter Tryz.func41,Tryz.ntmps41
     go_wp2_with (first|(go_at_call 64;refine HOP.out.mono ?_;rintro e1 w1 ⟨rfl,rfl⟩)|(go_at_call 67;refine(eF H.out HL.out 19 (by decide)).mono ?_;rintro e3 w3 ⟨rfl,vo3,h3,g3⟩;have H3:=lH h3;have G3:=lH g3;clear h3 g3)|(go_at_call 65;refine(ij H3.out).mono ?_;rintro e2 w2 ⟨rfl,h2,o2,g2⟩;have H2:=lH h2;have O2:=lH o2;have G2:=lH g2;clear h2 o2 g2))
     go_ret;exact⟨_,_,rfl,H2.out,O2.out,G3.out.trans G2.out,rfl,fun e=>(by cases e)⟩
theorem pq {w:World} {D n0:Nat} {m:Lm} {s:ar} {V:cU} (h:an w D n0 m s V) (ht:s.tr.length<=1000000):
 Calls Tryz.prog 55 #[.pointer (some ⟨D,0,none⟩)] w fun e w'=>∃v,e=.returned v/\ao w' w.heap.size v (if s.over=true then s.tr else [])/\Below w.heap.size w w':=by
 have HD:=lH (rj h.k);cases ho:s.over with
 | false=>
   rw[ho] at HD;rw[if_neg (by decide)];clear h ho;go_enter Tryz.func55,Tryz.ntmps55
   go_wp2_with (go_at_call 54;refine HD.out.mono ?_;rintro e1 w1 ⟨rfl,rfl⟩)
   go_ret;exact⟨_,rfl,ao.start _ _,EK _ _⟩
 | true=>
   rw[ho] at HD;rw[if_pos rfl];obtain⟨pt,nt,ct,hvt⟩:=ao.shape (show ao w n0 V.vt s.tr from h.r.t);have y10:w.cell? ⟨D,10,none⟩=some (.slice pt nt ct):=(h.k.cell 10).trans (FH some hvt);have hf:cu w (.slice pt nt ct) s.tr:=by rw[<-hvt];exact ao.flds (show ao w n0 V.vt s.tr from h.r.t)
   have HC:=lH (pE (.slice pt nt ct) s.tr w hf ht);clear h ho hf hvt ht;go_enter Tryz.func55,Tryz.ntmps55
   go_wp2_with (first|(go_at_call 54;refine HD.out.mono ?_;rintro e1 w1 ⟨rfl,rfl⟩)|(go_at_call 45;refine HC.out.mono ?_;rintro e2 w2 ⟨p2,c2,rfl,o2,b2⟩;have O2:=lH o2;have B2:=lH b2;clear o2 b2))
   go_ret;exact⟨_,rfl,O2.out,B2.out⟩
end Go.Proofs.YthjbodpeckebiaaGreatDoor
-- Gath
namespace Go.Proofs.YthjbodpeckebiaaGreatDoor
open Go.RowKit
def Eb (w:World) (v:Value) (l:List Pc):Prop:=
 ∃p c,v=.slice p l.length c/\∀i (h:i<l.length),∃b off,p=some ⟨b,off,none⟩/\w.cell? ⟨b,off+3*i,none⟩=some (.int .i64 l[i].k)/\w.cell? ⟨b,off+3*i+1,none⟩=some (.int .i64 l[i].n)/\w.cell? ⟨b,off+3*i+2,none⟩=some (.string l[i].t)
theorem yS (l:List Pc):∀(i:Nat) (h:i<l.length),(fN l)[3*i]? = some (.int .i64 l[i].k)/\(fN l)[3*i+1]? = some (.int .i64 l[i].n)/\(fN l)[3*i+2]? = some (.string l[i].t):=by
 induction l with
 | nil=>intro i h;exact absurd h (FS _)
 | cons a l ih=>
   intro i h;have e:fN (a :: l)=.int .i64 a.k :: .int .i64 a.n :: .string a.t :: fN l:=rfl;rw[e];cases i with
   | zero=>exact⟨rfl,rfl,rfl⟩
   | succ i=>
     have:=ih i (by simpa using h);rw[show 3*(i+1)=3*i+3 by omega];simpa using this
theorem Eb.of_own {w:World} {B:Nat} {v:Value} {l:List Pc} (h:cB w B v l):Eb w v l:=by
 obtain⟨_,h⟩:=h;rcases h with ⟨rfl,h0⟩|⟨g,cap,cur,rfl,_,hg,h1,h2,h3,h4⟩
 ·have:l=[]:=EU h0
  subst this;exact⟨_,_,rfl,fun i hi=>absurd hi (FS _)⟩
 ·refine⟨_,cap,rfl,fun i hi=>⟨g,0,rfl,?_⟩⟩
  obtain⟨a,b,c⟩:=yS l i hi;rw[<-h4] at a b c;rw[Gx,if_pos (by omega)] at a b c;simp only[World.cell?,hg,FQ];simp only[Gq] at a b c;exact⟨a,b,c⟩
theorem Eb.below {w w':World} {v:Value} {l:List Pc} (h:Eb w v l) (hb:Below w.heap.size w w'):Eb w' v l:=by
 obtain⟨p,c,hv,hc⟩:=h;refine⟨p,c,hv,fun i hi=>?_⟩;obtain⟨b,off,hp,h1,h2,h3⟩:=hc i hi;have hlt:=ET w _ h1;exact⟨b,off,hp,((bL hb) b _ hlt).trans h1,((bL hb) b _ hlt).trans h2,((bL hb) b _ hlt).trans h3⟩
def bT (w:World) (B:Nat) (v:Value) (l:List Int):Prop:=w.ownsRow B 3 1 v l.length (l.map (Value.int .i64))
theorem bT.start (w:World) (B:Nat):bT w B (.slice none 0 0) []:=Fv _ _ _ _
theorem bT.shape {w:World} {B:Nat} {v:Value} {l:List Int} (h:bT w B v l):∃p c,v=.slice p l.length c:=by
 obtain⟨_,h⟩:=h;rcases h with ⟨rfl,h0⟩|⟨g,cap,cur,rfl,_⟩
 ·exact⟨_,_,by rw[h0]⟩
 ·exact⟨_,_,rfl⟩
theorem bT.call {w w1:World} {B:Nat} {v:Value} {l:List Int} (h:bT w B v l) (hb:Below w.heap.size w w1):bT w1 B v l:=ab h (P:=fun _=>False) (aa.of_below hb) (fun _ _=>id)
theorem bT.nums {w:World} {B:Nat} {v:Value} {l:List Int} (h:bT w B v l):lQ w v l:=lQ.of_own h
theorem pJ:(Tryz.prog.info? 3).map (fun i=>(i.zero,i.size,i.bytes))=some (some (.int .i64 0),1,8):=by kernel_rfl
theorem iF {ops:Array Oper} {rest:List Oper} {o:Oper} {a:Act} {Q:Exit->Act->World->Prop} (hgd:o.guard=none) (s x:Operand)
 (ho:o.op=.call { callee:=.builtin .append,args:=#[s,x],argTypes:=#[47,47] }) {w:World} {B:Nat} {v:Value} {l:List Int} (hs:a.eval s=v) (hown:bT w B v l) (y:Int)
 {bn:Nat} (hx:a.eval x=.slice (some ⟨bn,0,none⟩) 1 1) (hbn:bn=w.heap.size) (hl:l.length<=1000000) (hB:B<=w.heap.size)
 (h:∀g c w1,bT w1 B (.slice (some ⟨g,0,none⟩) (l.length+1) c) (l++[y])->aa (fun j=>v.ownBlock=some j) w w1->(v.ownBlock=some g\/w.heap.size<=g)->wpList Tryz.prog ops Q rest (a.put o.dst (.slice (some ⟨g,0,none⟩) (l.length+1) c)) w1):
 wpList Tryz.prog ops Q (o :: rest) a (w.alloc (.cells #[.int .i64 y] 3)):=by
 subst hbn;obtain⟨i0,hi,hz0,hz1,hz2⟩:=info_parts pJ;have hown':World.ownsRow (w.alloc (.cells #[.int .i64 y] 3)) B 3 1 v l.length (l.map (Value.int .i64)):=World.ownsRow.alloc hown _;refine wpList_append_lies _ hgd s x 47 ho B 3 i0 _ 1 8 Tryz.underlying47 hi hz0 hz1 hz2 rfl (by decide) v l.length _ hs hown' ⟨w.heap.size,0,none⟩ 1 1 [.int .i64 y] hx rfl ?c1 ?c2 (by decide) ?c3 ?c4 ?c5 _ rfl ?_;case c1=>exact World.news_of_block (cs:=#[.int .i64 y]) (t:=3) (fr:=(0,0)) (heap_alloc_new w _)
 case c2=>simp[Value.oneCell']
 case c3=>unfold maxLen;omega
 case c4=>omega
 case c5=>simp;omega
 intro g c w1 hown1 hg hat _;refine h g c w1 ?_ ?_ ?_
 ·show w1.ownsRow B 3 1 _ (l++[y]).length _
  rw[EY,Fo];exact hown1
 ·refine((aa.refl _ w).alloc (.cells #[.int .i64 y] 3)).trans ⟨hg.os,hg.tape,hg.output,hg.size,fun k hk hne=>hg.block k hk (fun e=>hne e.symm)⟩
 ·rcases hat with h1|h1
  ·exact Or.inl h1
  ·right;rw[h1];simp
def bQ (l:List Pc):Nat:=(l.map fun p=>p.t.size).sum
theorem zB (l:List Pc) (k:Nat) (x:Pc) (h:k<l.length) (hx:l[k]=x):bQ (l.drop k)=x.t.size+bQ (l.drop (k+1)):=by
 rw[Fa h,hx];rfl
end Go.Proofs.YthjbodpeckebiaaGreatDoor
-- BodyLives
namespace Go.Proofs.YthjbodpeckebiaaGreatDoor
open Go.RowKit
theorem bal2 (w:World) (a b:Obj):Below w.heap.size w ((w.alloc a).alloc b):=((EK _ _).alloc (nR _) _).alloc (by simp) _
end Go.Proofs.YthjbodpeckebiaaGreatDoor
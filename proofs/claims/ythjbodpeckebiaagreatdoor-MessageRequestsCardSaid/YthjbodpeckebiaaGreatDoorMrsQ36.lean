/- Texts packed for one claim, 36 of 52: OpenLim OpenMs. -/
import Derived.Test.YthjbodpeckebiaaGreatDoorMrsQ35
import Derived.Test.YthjbodpeckebiaaGreatDoorMrsQ17
import Derived.Deep.Slices
import Derived.Deep.Fields
import Derived.ChangeSame
set_option maxRecDepth 100000
set_option maxHeartbeats 16000000
set_option linter.unusedSimpArgs false
set_option linter.unusedVariables false
-- OpenLim
namespace Go.Proofs.YthjbodpeckebiaaGreatDoor
open Go.RowKit Go.ChangeShapes Go.WideShapes Go.Deep
section
variable {H:Type} {enc:TypeId×Value->H} {P:Program} {w:World}
theorem zn {t e:TypeId} {fuel:Nat} {v:Value} {x:DataW H×List MemPlace} (ht:P.underlying t=some (.slice e)) (he:P.underlying e=some .string) (hC:P.cellsOf e=1)
 (h:DataW.trod enc P w 0 (fun _=>true) true fuel t [v]=some x):wU v/\∃l,cQ w v l/\l.length<=9223372036854775807/\∀s∈l,s.size<=9223372036854775807:=by
 rcases open_slice ht h with ⟨hcs,_⟩|⟨a,len,cap,m,n,D,Pl,hcs,_,hl,hm,hmm,_,hi⟩
 ·simp only[List.cons.injEq,and_true] at hcs
  subst hcs;exact⟨nR _,[],cQ.nil _ _ _,by decide,fun s hs=>by cases hs⟩
 simp only[List.cons.injEq,and_true] at hcs;have hlm:len<=m:=by rw[hmm];split<;>omega
 have hel:∀i,i<len->∃s:ByteArray,w.cell? (a.add i)=some (.string s)/\s.size<=9223372036854775807:=by
  intro i hil;obtain⟨cs',hc,ht'⟩:=hi i (by omega);rw[hC,Nat.mul_one] at hc;obtain⟨k,q,_,wk⟩:=DataW.trod_string he ht';obtain⟨_,hcl,hat⟩:=World.cells?_some hc;have a0:=hat 0 (by omega);rw[q] at a0;rw[Go.Deep.add_add,Nat.add_zero] at a0;unfold maxLen at wk;exact⟨k,a0,by omega⟩
 obtain⟨f,hf⟩:∃f:Nat->ByteArray,∀i,i<len->w.cell? (a.add i)=some (.string (f i))/\(f i).size<=9223372036854775807:=
  ⟨fun i=>if h:i<len then Classical.choose (hel i h) else ⟨#[]⟩,fun i h=>by
   simp only[dif_pos h]
   exact Classical.choose_spec (hel i h)⟩
 subst hcs;refine⟨hl,(List.range len).map f,⟨some a,cap,by simp,fun i hi=>?_⟩,by simp;unfold maxLen at hm;omega,fun s hs=>?_⟩
 ·rw[F9,List.length_range] at hi
  have h1:=(hf i hi).1;have h0:=(hf 0 (by omega)).1;obtain⟨b,off,spot⟩:=a;have hs:spot=none:=by simpa [Addr.add] using World.cell?_spot h0
  subst hs;refine⟨b,off,rfl,?_⟩;rw[gU] at h1;rw[List.getElem_map,List.getElem_range];exact h1
 ·obtain⟨i,hi,rfl⟩:=List.mem_map.1 hs
  rw[List.mem_range] at hi;exact(hf i hi).2
end
end Go.Proofs.YthjbodpeckebiaaGreatDoor
-- OpenMs
namespace Go.Proofs.YthjbodpeckebiaaGreatDoor
open Go.RowKit Go.ChangeShapes Go.WideShapes Go.Deep
theorem list9 {α:Type} (l:List α) (h:l.length=9):∃c0 c1 c2 c3 c4 c5 c6 c7 c8,l=[c0,c1,c2,c3,c4,c5,c6,c7,c8]:=by
 match l,h with
 | [c0,c1,c2,c3,c4,c5,c6,c7,c8],_=>exact⟨c0,c1,c2,c3,c4,c5,c6,c7,c8,rfl⟩
section
variable {H:Type} {enc:TypeId×Value->H} {P:Program} {w:World}
theorem zY {t:TypeId} {base n:Nat} {spare:Nat->Bool} {held:Bool} {l:List Value} {i o:Nat} {x:Value} {xs:List (DataW H×List MemPlace)} (h1:P.cellsOf t=1) (hx:l[o]? = some x) (hi:i<xs.length)
 (h:DataW.trod enc P w base spare held n t ((l.drop o).take (P.cellsOf t))=xs[i]?):∃y,DataW.trod enc P w base spare held n t [x]=some y:=by
 rw[h1,EM hi] at h;obtain⟨ho,rfl⟩:=Gl.1 hx;rw[Fa ho] at h;exact⟨_,h⟩
end
theorem Ez {H:Type} {enc:TypeId×Value->H} {W:World} {base:Nat} {v:Value} {x:DataW H×List MemPlace} {fuel:Nat} (hv:Value.okWide Tryz.prog W .any base 26 v)
 (hf:DataW.trod enc Tryz.prog W 0 (fun _=>true) true fuel 26 v.cells.toList=some x):∃s cl vm a b c d f cut,v=.agg #[.string s,.bool cl,vm,.int .i64 a,.int .i64 b,.int .i64 c,.int .i64 d,.int .i64 f,.int .i64 cut]/\(-9223372036854775808<=b/\b<=9223372036854775807)/\∃l,cQ W vm l/\l.length<=9223372036854775807:=by
 have oI:Tryz.prog.cellsOf 3=1:=by kernel_rfl
 have oS:Tryz.prog.cellsOf 9=1:=by kernel_rfl
 have oB:Tryz.prog.cellsOf 4=1:=by kernel_rfl
 have oM:Tryz.prog.cellsOf 22=1:=by kernel_rfl
 have oL:Tryz.prog.cellsOf 24=5:=by kernel_rfl
 obtain⟨cs,rfl,hsz⟩:=okWide_struct Tryz.underlying26 hv;have hC:Tryz.prog.cellsOf 26=9:=by kernel_rfl
 obtain⟨l⟩:=cs;obtain⟨c0,c1,c2,c3,c4,c5,c6,c7,c8,rfl⟩:=list9 l (hsz.trans hC);obtain⟨xs,n,_,hx,_,hlen,hg⟩:=DataW.trod_struct Tryz.underlying26 hf;have hlen:xs.length=5:=hlen;obtain⟨s,rfl,_⟩:=tz Tryz.underlying9 oS (o:=0) (i:=0) (x:=c0) rfl (by omega) (hg 0 _ rfl);obtain⟨yb,hyb⟩:=zY oB (o:=1) (i:=1) (x:=c1) rfl (by omega) (hg 1 _ rfl);obtain⟨ym,hym⟩:=zY oM (o:=2) (i:=2) (x:=c2) rfl (by omega) (hg 2 _ rfl);obtain⟨cut,rfl,_⟩:=dU Tryz.underlying3 oI (o:=8) (i:=4) (x:=c8) rfl (by omega) (hg 4 _ rfl);have hL:=hg 3 _ rfl;rw[EM (show 3<xs.length by omega)] at hL;obtain⟨zs,n2,_,hz,_,hlen2,hg2⟩:=DataW.trod_struct Tryz.underlying24 hL;have hlen2:zs.length=5:=hlen2;obtain⟨k0,rfl,_⟩:=dU Tryz.underlying3 oI (o:=0) (i:=0) (x:=c3) rfl (by omega) (hg2 0 _ rfl);obtain⟨k1,rfl,h1⟩:=dU Tryz.underlying3 oI (o:=1) (i:=1) (x:=c4) rfl (by omega) (hg2 1 _ rfl);obtain⟨k2,rfl,_⟩:=dU Tryz.underlying3 oI (o:=2) (i:=2) (x:=c5) rfl (by omega) (hg2 2 _ rfl);obtain⟨k3,rfl,_⟩:=dU Tryz.underlying3 oI (o:=3) (i:=3) (x:=c6) rfl (by omega) (hg2 3 _ rfl);obtain⟨k4,rfl,_⟩:=dU Tryz.underlying3 oI (o:=4) (i:=4) (x:=c7) rfl (by omega) (hg2 4 _ rfl);obtain⟨cb,hcb,_⟩:=DataW.trod_bool Tryz.underlying4 hyb;obtain⟨_,l,hS,hl,_⟩:=zn Tryz.underlying22 Tryz.underlying9 oS hym
 simp only[List.cons.injEq,and_true] at hcb;subst hcb;exact⟨s,cb,c2,k0,k1,k2,k3,k4,cut,rfl,h1,l,hS,hl⟩
end Go.Proofs.YthjbodpeckebiaaGreatDoor
/- Texts packed for one claim, 5 of 48: Flds HSame Nums. -/
import Derived.Test.YthjbodpeckebiaaGreatDoorRdnQ2
import Derived.IntWalk
set_option maxRecDepth 100000
set_option maxHeartbeats 16000000
set_option linter.unusedSimpArgs false
set_option linter.unusedVariables false
-- Flds
namespace Go.Proofs.YthjbodpeckebiaaGreatDoor
open Go.RowKit
abbrev Fd:=ByteArray×ByteArray
def bL (w:World) (v:Value) (l:List Fd):Prop:=
 ∃p c,v=.slice p l.length c/\∀i (h:i<l.length),∃b off,p=some ⟨b,off,none⟩/\w.cell? ⟨b,off+2*i,none⟩=some (.string l[i].1)/\w.cell? ⟨b,off+2*i+1,none⟩=some (.string l[i].2)
theorem bL.below {w w':World} {v:Value} {l:List Fd} (h:bL w v l) (hb:Below w.heap.size w w'):bL w' v l:=by
 obtain⟨p,c,hv,hc⟩:=h;refine⟨p,c,hv,fun i hi=>?_⟩;obtain⟨b,off,hp,h1,h2⟩:=hc i hi;have hlt:=t8 w _ h1;exact⟨b,off,hp,((dY hb) b _ hlt).trans h1,((dY hb) b _ hlt).trans h2⟩
theorem bL.nil (w:World) (p:Option Addr) (c:Nat):bL w (.slice p 0 c) []:=⟨p,c,rfl,fun i hi=>absurd hi (uL _)⟩
def bH (l:List Fd):List Value:=l.flatMap fun p=>[.string p.1,.string p.2]
theorem cT (l:List Fd):(bH l).length=l.length*2:=by
 induction l with
 | nil=>rfl
 | cons a l ih=>unfold bH at ih ⊢;rw[List.flatMap_cons,ue,ih];simp;omega
theorem gY (l:List Fd):∀(i:Nat) (h:i<l.length),(bH l)[2*i]? = some (.string l[i].1)/\(bH l)[2*i+1]? = some (.string l[i].2):=by
 induction l with
 | nil=>intro i h;exact absurd h (uL _)
 | cons a l ih=>
   intro i h;have e:bH (a :: l)=.string a.1 :: .string a.2 :: bH l:=rfl;rw[e];cases i with
   | zero=>exact⟨rfl,rfl⟩
   | succ i=>
     have:=ih i (by simpa using h);rw[show 2*(i+1)=2*i+2 by omega];simpa using this
theorem lk (l m:List Fd):bH (l++m)=bH l++bH m:=by unfold bH;rw[List.flatMap_append]
theorem bL.of_own {w:World} {B:Nat} {v:Value} {l:List Fd} (h:w.ownsRow B 95 2 v l.length (bH l)):bL w v l:=by
 obtain⟨_,h⟩:=h;rcases h with ⟨rfl,h0⟩|⟨g,cap,cur,rfl,_,hg,h1,h2,h3,h4⟩
 ·have:l=[]:=t9 h0
  subst this;exact bL.nil _ _ _
 ·refine⟨_,cap,rfl,fun i hi=>⟨g,0,rfl,?_⟩⟩
  obtain⟨a,b⟩:=gY l i hi;rw[<-h4] at a b;rw[vg,if_pos (by omega)] at a b;simp only[World.cell?,hg,uJ];simp only[Array.getElem?_toList] at a b;exact⟨a,b⟩
theorem bJ (w:World) (n:Nat):Below w.heap.size w (w.drewN n):=⟨rfl,rfl,rfl,nR _,fun _ _=>rfl⟩
theorem dZ {B:Nat} {a w:World} (h:Below B a w) (n:Nat):Below B a (w.drewN n):=h.trans ⟨rfl,rfl,rfl,nR _,fun _ _=>rfl⟩
theorem rD {a b:ByteArray} (h:a≠b):(a.toList==b.toList)=false:=by
 rw[Bool.eq_false_iff];intro hc;have e:=eq_of_beq hc;rw[u1,u1] at e;exact h (ByteArray.ext (Array.toList_inj.1 e))
theorem oR (v v':Value) (l l':List Fd) (w:World) (h:bL w v l) (h':bL w v' l') (hz:l.length<=1000000000) (hz':l'.length<=1000000000):
 Calls Tryz.prog 44 #[v,v'] w fun e w'=>e=.returned (.bool (decide (l=l')))/\Below w.heap.size w w':=by
 obtain⟨p,c,rfl,hc⟩:=h;obtain⟨p',c',rfl,hc'⟩:=h';by_cases hn:l.length=l'.length
 ·have HN:=lH hn
  obtain⟨n,hnl⟩:∃n,n=l.length:=⟨_,rfl⟩;have hnl':n=l'.length:=by omega
  have HNl:=lH hnl;have HNl':=lH hnl';rw[<-hnl] at hz ⊢;rw[<-hnl'];have HC:=lH hc;have HC':=lH hc';have hnn:(((n:Nat):Int) != (n:Int))=false:=by simp
  clear hc hc' hn hnl hnl' hz';go_enter Tryz.func44,Tryz.ntmps44
  go_wp2_with fail
  go_loopw [5] (fun i wr=>∃k m:Nat,k<=n/\i=.int .i64 k/\wr=w.drewN m/\(∀(j:Nat) (h1:j<l.length) (h2:j<l'.length),j<k->l[j]=l'[j])) (fun i _=>n - (intOf i).toNat)
  case atStart=>exact⟨0,0,by omega,rfl,rfl,fun j _ _ hj=>absurd hj (uL _)⟩
  case round=>
   obtain⟨k,m,hk,rfl,rfl,hall⟩:=hrel;have HA:=lH hall;clear hall;by_cases hkn:k<n
   ·have hk1:k<l.length:=by rw[<-HNl.out];exact hkn
    have hk2:k<l'.length:=by rw[<-HNl'.out];exact hkn
    obtain⟨b,off,hp,a1,a2⟩:=HC.out k hk1;obtain⟨b',off',hp',b1,b2⟩:=HC'.out k hk2;subst hp hp';obtain⟨x,hx⟩:∃x,x=l[k]:=⟨_,rfl⟩;obtain⟨y,hy⟩:∃y,y=l'[k]:=⟨_,rfl⟩;rw[<-hx] at a1 a2;rw[<-hy] at b1 b2;have HX:Hid (∀h:k<l.length,x=l[k]):=fun _=>hx;have HY:Hid (∀h:k<l'.length,y=l'[k]):=fun _=>hy;clear hx hy;obtain⟨x1,x2⟩:=x;obtain⟨y1,y2⟩:=y;have HI:Hid (k<l.length/\k<l'.length):=⟨hk1,hk2⟩;clear hk1 hk2 hnn;rw[show off+2*k=off+k*2 by omega] at a1 a2;rw[show off'+2*k=off'+k*2 by omega] at b1 b2;dsimp only at a1 a2 b1 b2
    have hk0:(0:Int)<=(k:Int):=by omega
    have hki:(k:Int)<(n:Int):=by omega
    by_cases e1:x1=y1
    ·subst e1
     by_cases e2:x2=y2
     ·subst e2
      go_wp2_with fail
      go_quiet (fail)
      go_wp2_with fail
      go_roundw
      case rel=>
       refine⟨k+1,_,by omega,by go_num,by first|rfl|(rw[drewN_drewN]),fun j h1 h2 hj=>?_⟩;by_cases e:j=k
       ·subst e;rw[<-HX.out h1,<-HY.out h2]
       ·exact HA.out j h1 h2 (by omega)
      case measure=>simp[intOf];omega
     ·have q2:=rD e2
      have HE:Hid (l≠l'):=by
       show l≠l';rintro rfl;have:=(HX.out HI.out.1).trans (HY.out HI.out.2).symm;exact e2 (uF Prod.snd this)
      clear e2;go_wp2_with fail
      go_quiet (fail)
      go_wp2_with fail
      go_ret;rw[dF HE.out];exact⟨rfl,dZ (bJ _ _) _⟩
    ·have q1:=rD e1
     have HE:Hid (l≠l'):=by
      show l≠l';rintro rfl;have:=(HX.out HI.out.1).trans (HY.out HI.out.2).symm;exact e1 (uF Prod.fst this)
     clear e1;go_wp2_with fail
     go_quiet (fail)
     go_wp2_with fail
     go_ret;rw[dF HE.out];exact⟨rfl,dZ (bJ _ _) _⟩
   ·have hkn':k=n:=by omega
    have HE:Hid (l=l'):=List.ext_getElem HN.out (fun j h1 h2=>HA.out j h1 h2 (by have:=HNl.out;omega));subst hkn';go_wp2_with fail
    go_ret;rw[dT HE.out];exact⟨rfl,bJ _ _⟩
 ·have HE:Hid (l≠l'):=fun e=>hn (by rw[e])
  have hnn:(((l.length:Nat):Int) != (l'.length:Int))=true:=by simp;omega
  clear hc hc';go_enter Tryz.func44,Tryz.ntmps44
  go_wp2_with fail
  go_ret;rw[dF HE.out];exact⟨rfl,tU _ _⟩
end Go.Proofs.YthjbodpeckebiaaGreatDoor
-- HSame
namespace Go.Proofs.YthjbodpeckebiaaGreatDoor
open Go.RowKit
theorem de {w w1:World} {o o':Obj} (h:Below ((w.alloc o).alloc o').heap.size ((w.alloc o).alloc o') w1):Below w.heap.size w w1:=(((tU _ _).alloc (nR _) _).alloc (by simp) _).trans (h.mono (by simp;omega))
theorem o0 (m t r m' t' r':ByteArray) (k n k' n':Int) (f f':Value) (l l':List Fd) {p1 p2 p3 p4 p5:Bool} (h1:(m.toList==m'.toList)=p1) (h2:(t.toList==t'.toList)=p2) (h3:(k==k')=p3) (h4:(n==n')=p4) (h5:(r.toList==r'.toList)=p5) (w:World) (hf:bL w f l) (hf':bL w f' l') (hz:l.length<=1000000000) (hz':l'.length<=1000000000):
 Calls Tryz.prog 24 #[.agg #[.string m,.string t,.int .i64 k,.int .i64 n,.string r,f],.agg #[.string m',.string t',.int .i64 k',.int .i64 n',.string r',f']] w fun e w'=>e=.returned (.bool ((p1&&(p2&&(p3&&(p4&&p5))))&&decide (l=l')))/\Below w.heap.size w w':=by
 have HS:=lH (fun W=>ru m t r m' t' r' k n k' n' f f' h1 h2 h3 h4 h5 W);clear h1 h2 h3 h4 h5;obtain⟨b,hb⟩:∃b,b=(p1&&(p2&&(p3&&(p4&&p5)))):=⟨_,rfl⟩;obtain⟨d,hd⟩:∃d,d=decide (l=l'):=⟨_,rfl⟩
 have HF:Hid (∀W,Below w.heap.size w W->Calls Tryz.prog 44 #[f,f'] W fun e w'=>e=.returned (.bool d)/\Below W.heap.size W w'):=by
  show ∀W,_->_;intro W hW;rw[hd];exact oR f f' l l' W (hf.below hW) (hf'.below hW) hz hz'
 rw[<-hb] at HS ⊢;rw[<-hd];clear hb hd hf hf' hz hz';cases b
 ·go_enter Tryz.func24,Tryz.ntmps24
  go_wp2_with (go_at_call 43;refine(HS.out _).mono ?_;rintro e1 w1 ⟨rfl,hb1⟩;have HB1:=lH hb1;clear hb1)
  go_ret;refine⟨by simp,?_⟩;have h0:Below w.heap.size w ((w.alloc (.cells #[.string m,.string t,.int .i64 k,.int .i64 n,.string r,f] 44)).alloc (.cells #[.string m',.string t',.int .i64 k',.int .i64 n',.string r',f'] 44)):=((tU _ _).alloc (nR _) _).alloc (by simp) _;exact h0.trans (HB1.out.mono (by simp;omega))
 ·go_enter Tryz.func24,Tryz.ntmps24
  go_wp2_with (first|(go_at_call 43;refine(HS.out _).mono ?_;rintro e1 w1 ⟨rfl,hb1⟩;have q5:=(((ac.new w _ _).alloc _).call hb1).cell 5;have q6:=((ac.new' (n:=w.heap.size+1) (by simp)).call hb1).cell 5;simp at q5 q6;have B1:=lH (de hb1);clear hb1)|(go_at_call 44;refine(HF.out _ B1.out).mono ?_;rintro e2 w2 ⟨rfl,hb2⟩;have B2:=lH (B1.out.trans (hb2.mono B1.out.size));clear hb2))
  go_ret;exact⟨by simp,B2.out⟩
end Go.Proofs.YthjbodpeckebiaaGreatDoor
-- Nums
namespace Go.Proofs.YthjbodpeckebiaaGreatDoor
open Go.RowKit
end Go.Proofs.YthjbodpeckebiaaGreatDoor
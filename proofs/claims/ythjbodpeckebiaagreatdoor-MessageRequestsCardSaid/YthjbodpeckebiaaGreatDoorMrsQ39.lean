/- Texts packed for one claim, 39 of 52: EbA RbQ MsA MsP. -/
import Derived.Test.YthjbodpeckebiaaGreatDoorMrsQ29
import Derived.Test.YthjbodpeckebiaaGreatDoorMrsQ37
import Derived.Test.YthjbodpeckebiaaGreatDoorMrsQ38
import Derived.Test.YthjbodpeckebiaaGreatDoorMrsQ2
import Derived.Test.YthjbodpeckebiaaGreatDoorMrsQ32
import Derived.Test.YthjbodpeckebiaaGreatDoorMrsQ6
set_option maxRecDepth 100000
set_option maxHeartbeats 16000000
set_option linter.unusedSimpArgs false
set_option linter.unusedVariables false
-- EbA
namespace Go.Proofs.YthjbodpeckebiaaGreatDoor
open Go.RowKit
def sg (m:Lm) (left:Int) (out:List Pc):ar:=⟨.size,left,dC m.line,[],[],false,false,0,out⟩
theorem fF {m:Lm} {f:Nat} {s S:ar} {x y:List UInt8} {k:Nat} (hx:x≠[]) (ho:s.opens=true) (hs:au m s x=(S,k)) (hd:x.drop k=y):cZ m (f+1) s x=((cZ m f S y).1,k+(cZ m f S y).2):=by
 rw[ju hx ho,hs,hd]
end Go.Proofs.YthjbodpeckebiaaGreatDoor
-- RbQ
namespace Go.Proofs.YthjbodpeckebiaaGreatDoor
open Go.RowKit
theorem nN (out:List Pc) (n:Int) (t:ByteArray):jJ (out++[⟨2,n,t⟩])=jJ out++[n]:=by rw[jV];rfl
theorem tF (out:List Pc) (n:Int) (x:List UInt8):fP (out++[⟨3,n,⟨x.toArray⟩⟩])=fP out++x:=by
 rw[kr];unfold fP;simp
theorem xB (m:Lm) (n:Int) (L:gk) (out:List Pc) (y:List UInt8) (h:(y.length:Int)<=n):
 au m ⟨.data,n,L,[],[],false,false,0,out⟩ y=(⟨if n - y.length=0 then .cr else .data,n - y.length,L,[],[],false,false,0,out++[⟨3,0,⟨y.toArray⟩⟩]⟩,y.length):=by
 have hm:min (y.length:Int) n=y.length:=by omega
 unfold au ar.some ar.rest ar.put;simp only[hm,EX];rw[Fh (nR _)];by_cases hz:n - (y.length:Int)=0
 ·rw[if_pos hz,if_pos hz]
 ·rw[if_neg hz,if_neg hz]
theorem yF (m:Lm) (n:Nat) (L:gk) (out:List Pc) (y:List UInt8) (h:n<y.length):
 au m ⟨.data,n,L,[],[],false,false,0,out⟩ y=(⟨.cr,0,L,[],[],false,false,0,out++[⟨3,0,⟨(y.take n).toArray⟩⟩]⟩,n):=by
 have hm:min (y.length:Int) (n:Int)=n:=by omega
 unfold au ar.some ar.rest ar.put;simp only[hm,EX,Int.sub_self];rfl
theorem ch_eq (m:Lm):∀(N:Nat) (x:List UInt8) (left:Int) (out:List Pc) (f g:Nat),x.length<=N->x.length+1<=f->x.length+1<=g->
 mF (cZ m f (sg m left out) x) out (bW m g x).used (bW m g x).over (bW m g x).err (bW m g x).tr (bW m g x).sizes (bW m g x).body:=by
 intro N;induction N with
 | zero=>
   intro x left out f g hN hf hg;have hx:x=[]:=EU (by omega);subst hx;obtain⟨g,rfl⟩:∃g',g=g'+1:=⟨g - 1,by omega⟩;rw[aO (Or.inl rfl),bW,if_pos rfl];exact⟨rfl,rfl,rfl,rfl,by rw[Fp];rfl,by rw[Fp];rfl⟩
 | succ N ih=>
   intro x left out f g hN hf hg;obtain⟨g,rfl⟩:∃g',g=g'+1:=⟨g - 1,by omega⟩;obtain⟨f,rfl⟩:∃f',f=f'+1:=⟨f - 1,by omega⟩;by_cases hx:x=[]
   ·subst hx
    rw[aO (Or.inl rfl),bW,if_pos rfl];exact⟨rfl,rfl,rfl,rfl,by rw[Fp];rfl,by rw[Fp];rfl⟩
   ·have hrd:=xa m.line x (dC m.line) 0 0 rfl rfl (by show m.line=m.line - ((0:Nat):Int);simp) rfl
    have hl0:(dC m.line).line=[]:=rfl;have ht0:(dC m.line).turn=false:=rfl;rw[hl0,ht0] at hrd;rw[ju hx rfl,ks rfl,bW,if_neg hx];have hwh:((sg m left out).whole x).2.2=(ac x (dC m.line)).1.whole:=rfl;have hwu:((sg m left out).whole x).2.1=(ac x (dC m.line)).2:=rfl;cases hq:(ac x (dC m.line)).1.whole with
    | false=>
      rw[hq,if_neg (by decide)] at hrd;obtain⟨r1,r2,r3,r4⟩:=hrd;rw[r1];rw[hwh,hq,if_pos rfl];simp only[hwu];rw[r2,r3,FQ];by_cases hz:(ac x (dC m.line)).1.e=0
      ·have e1:((sg m left out).whole x).1={ sg m left out with ln:=(ac x (dC m.line)).1 }:=by
        unfold ar.whole;simp only;exact if_pos hz
       rw[e1,aO (Or.inl (by rw[r4 hz,List.drop_length])),hz];exact⟨rfl,rfl,rfl,rfl,by rw[Fp];rfl,by rw[Fp];rfl⟩
      ·have e1:((sg m left out).whole x).1=({ sg m left out with ln:=(ac x (dC m.line)).1 }:ar).wrong (ac x (dC m.line)).1.e:=by
        unfold ar.whole;simp only;exact if_neg hz
       rw[e1];exact(dq m f { sg m left out with ln:=(ac x (dC m.line)).1 } _ hz rfl).more _
    | true=>
      rw[hq,if_pos rfl] at hrd;obtain⟨r1,r2,r3,r4,r5⟩:=hrd;have q1:((sg m left out).whole x).1={ sg m left out with ln:=(ac x (dC m.line)).1 }:=(g7 (s:=sg m left out) (x:=x) rfl rfl (hwh.trans hq)).1;rw[hwh,hq,if_neg (by decide),hwu,q1,r1];rw[FQ] at r2;simp only[r2];have hle:=eE x (dC m.line);rw[r2] at hle;generalize hl:(ac x (dC m.line)).1.line=l at r2 hle ⊢;generalize (ac x (dC m.line)).1=Ln at *;have hll:({ sg m left out with ln:=Ln }:ar).ln.line=l:=hl;by_cases c2:(ak l).2=0
      ·simp only[if_neg (show ¬((ak l).2≠0) from fun h=>h c2),if_neg (show ¬(¬(ak l).2=0) from fun h=>h c2)]
       by_cases c1:(ak l).1=0
       ·simp only[if_pos c1]
        have ht:=Dy m left out f (x.drop (l.length+2)) (dC m.head) [] 0 0 (by rw[ES];omega) rfl rfl rfl rfl (by show m.head=m.head - ((0:Nat):Int);simp);have e2:({ ({ sg m left out with ln:=Ln }:ar).read Ln with ln:=dC m.head,md:=.trailer }:ar)=⟨.trailer,left,dC m.head,[],[],false,false,0,out⟩:=rfl;rw[e2];unfold fW;generalize wO m.fold m.fields (cP m.head (x.drop (l.length+2)) 0 [] false).1 0 []=Z at ht ⊢;cases Z with
        | none=>
          obtain⟨u,h1,h2⟩:=ht;have h3:=h2.more (l.length+2);rw[FQ] at h1;rw[h1] at h3;exact h3
        | some Z=>
          obtain⟨r,at'⟩:=Z;obtain⟨u,h1,h2⟩:=ht;have h3:=h2.more (l.length+2);rw[FQ] at h1;rw[h1] at h3;exact h3
       ·simp only[if_neg c1]
        have hp:=ox c1;obtain⟨n,hn⟩:∃n:Nat,(ak l).1=n:=⟨(ak l).1.toNat,by omega⟩;have hn0:0<n:=by omega
        have e2:({ (({ sg m left out with ln:=Ln }:ar).read Ln).put ⟨2,(ak l).1,⟨#[]⟩⟩ with left:=(ak l).1,md:=.data }:ar)=⟨.data,n,{ Ln with line:=[],whole:=false },[],[],false,false,0,out++[⟨2,n,⟨#[]⟩⟩]⟩:=by rw[hn];rfl
        rw[e2,hn,EX];generalize hL:({ Ln with line:=[],whole:=false }:gk)=L;have hyl:(x.drop (l.length+2)).length=x.length - (l.length+2):=ES;generalize hy:x.drop (l.length+2)=y at hyl ⊢;by_cases hle2:(y.length:Int)<=n
        ·rw[if_pos hle2]
         by_cases hy0:y=[]
         ·subst hy0
          rw[aO (Or.inl rfl)];have hz:x.length=l.length+2:=by simp at hyl;omega
          exact⟨hz.symm,rfl,rfl,rfl,nN _ _ _,by rw[Fp];exact jr out ⟨2,n,⟨#[]⟩⟩ (show (2:Int)≠3 by decide)⟩
         ·obtain⟨f,rfl⟩:∃f',f=f'+1:=⟨f - 1,by have:=List.length_pos_iff.2 hy0;omega⟩
          have hx':x.length=l.length+2+y.length:=by have:=List.length_pos_iff.2 hy0;omega
          rw[fF hy0 rfl (xB m n L _ y hle2) (List.drop_length),aO (Or.inl rfl),hx'];exact⟨rfl,rfl,rfl,rfl,by rw[mX _ ⟨3,0,⟨y.toArray⟩⟩ (show (3:Int)≠2 by decide)];exact nN _ _ _,by rw[tF,jr out ⟨2,n,⟨#[]⟩⟩ (show (2:Int)≠3 by decide)]⟩
        ·rw[if_neg hle2]
         have hlt:n<y.length:=by omega
         have hy0:y≠[]:=by intro e;rw[e] at hlt;exact absurd hlt (FS _)
         obtain⟨f,rfl⟩:∃f',f=f'+1:=⟨f - 1,by omega⟩;have hdn:(y.drop n).length=y.length - n:=ES;rw[fF hy0 rfl (yF m n L _ y hlt) rfl];have hs2:jJ (out++[⟨2,(n:Int),⟨#[]⟩⟩]++[⟨3,0,⟨(y.take n).toArray⟩⟩])=jJ out++[(n:Int)]:=by rw[mX _ ⟨3,0,⟨(y.take n).toArray⟩⟩ (show (3:Int)≠2 by decide)];exact nN _ _ _
         have hb2:fP (out++[⟨2,(n:Int),⟨#[]⟩⟩]++[⟨3,0,⟨(y.take n).toArray⟩⟩])=fP out++y.take n:=by rw[tF,jr out ⟨2,n,⟨#[]⟩⟩ (show (2:Int)≠3 by decide)]
         generalize hb:y.take n=b at hs2 hb2 ⊢;generalize hO:out++[⟨2,(n:Int),⟨#[]⟩⟩]++[⟨3,0,⟨b.toArray⟩⟩]=O at hs2 hb2 ⊢;generalize hz:y.drop n=z at hdn ⊢;cases z with
         | nil=>simp at hdn;omega
         | cons a z=>
           dsimp only
           obtain⟨f,rfl⟩:∃f',f=f'+1:=⟨f - 1,by simp at hdn;omega⟩;by_cases ha:a=13
           ·subst ha
            rw[fF (S:=⟨.lf,0,L,[],[],false,false,0,O⟩) (k:=1) (y:=z) (by simp) rfl rfl rfl];simp only[if_neg (show ¬((13:UInt8)≠13) from fun h=>h rfl)];cases z with
            | nil=>
              rw[aO (Or.inl rfl)];exact⟨by show l.length+2+(n+(1+0))=l.length+2+n+1;omega,rfl,rfl,rfl,hs2,hb2⟩
            | cons c z=>
              dsimp only
              obtain⟨f,rfl⟩:∃f',f=f'+1:=⟨f - 1,by simp at hdn;omega⟩;by_cases hc:c=10
              ·subst hc
               rw[fF (S:=sg m 0 O) (k:=1) (y:=z) (by simp) rfl rfl rfl];simp only[if_neg (show ¬((10:UInt8)≠10) from fun h=>h rfl)];have hzl:z.length+n+l.length+4=x.length:=by simp at hdn;omega
               have h1:=ih z 0 O f g (by omega) (by omega) (by omega);refine⟨?_,h1.o,h1.e,h1.t,?_,?_⟩
               ·show l.length+2+(n+(1+(1+(cZ m f (sg m 0 O) z).2)))=l.length+2+n+2+(bW m g z).used
                rw[h1.u];omega
               ·rw[h1.s,hs2,FZ]
                rfl
               ·rw[h1.b,hb2,FZ]
                rfl
              ·simp only[if_pos (show c≠10 from hc)]
               have hst:au m ⟨.lf,0,L,[],[],false,false,0,O⟩ (c :: z)=((⟨.lf,0,L,[],[],false,false,0,O⟩:ar).wrong 3,0):=by
                have e:au m ⟨.lf,0,L,[],[],false,false,0,O⟩ (c :: z)=if (c :: z).head? = some 10 then ({ (⟨.lf,0,L,[],[],false,false,0,O⟩:ar) with ln:=dC m.line,md:=.size },1) else ((⟨.lf,0,L,[],[],false,false,0,O⟩:ar).wrong 3,0):=rfl
                rw[e,if_neg (by simpa using hc)]
               rw[fF (y:=c :: z) (by simp) rfl hst rfl];have h1:=dq m f (⟨.lf,0,L,[],[],false,false,0,O⟩:ar) (c :: z) (e:=3) (by decide) rfl;refine⟨?_,h1.o,h1.e,h1.t,?_,?_⟩
               ·show l.length+2+(n+(1+(0+(cZ m f _ (c :: z)).2)))=l.length+2+n+1
                rw[h1.u];omega
               ·rw[h1.s,Fp];exact hs2
               ·rw[h1.b,Fp];exact hb2
           ·simp only[if_pos (show a≠13 from ha)]
            have hst:au m ⟨.cr,0,L,[],[],false,false,0,O⟩ (a :: z)=((⟨.cr,0,L,[],[],false,false,0,O⟩:ar).wrong 3,0):=by
             have e:au m ⟨.cr,0,L,[],[],false,false,0,O⟩ (a :: z)=if (a :: z).head? = some 13 then ({ (⟨.cr,0,L,[],[],false,false,0,O⟩:ar) with md:=.lf },1) else ((⟨.cr,0,L,[],[],false,false,0,O⟩:ar).wrong 3,0):=rfl
             rw[e,if_neg (by simpa using ha)]
            rw[fF (y:=a :: z) (by simp) rfl hst rfl];have h1:=dq m f (⟨.cr,0,L,[],[],false,false,0,O⟩:ar) (a :: z) (e:=3) (by decide) rfl;refine⟨?_,h1.o,h1.e,h1.t,?_,?_⟩
            ·show l.length+2+(n+(0+(cZ m f _ (a :: z)).2))=l.length+2+n
             rw[h1.u];omega
            ·rw[h1.s,Fp];exact hs2
            ·rw[h1.b,Fp];exact hb2
      ·simp only[if_pos (show (ak l).2≠0 from c2),if_pos c2]
       exact(dq m f (({ sg m left out with ln:=Ln }:ar).read Ln) _ c2 rfl).more _
theorem mY (m:Lm) (k n:Int) (x:List UInt8):mF (cF m (aK m k n) x) [] (bD m k n x).used (bD m k n x).over (bD m k n x).err (bD m k n x).tr (bD m k n x).sizes (bD m k n x).body:=by
 unfold cF;obtain⟨L,hL⟩:∃L,L=x.length:=⟨_,rfl⟩;unfold bD;by_cases h0:n<0\/m.line<0\/65536<m.line\/m.head<0\/65536<m.head
 ·have e:aK m k n=(⟨.nothing,n,dC m.line,[],[],false,false,0,[]⟩:ar).wrong 1:=by
   unfold aK;simp only;rw[if_pos h0]
  rw[if_pos (by omega),e];exact dq m _ (⟨.nothing,n,dC m.line,[],[],false,false,0,[]⟩:ar) x (e:=1) (by decide) rfl
 ·by_cases hk:k<0\/3<k
  ·have e:aK m k n=(⟨.nothing,n,dC m.line,[],[],false,false,0,[]⟩:ar).wrong 1:=by
    unfold aK;simp only;rw[if_neg h0,if_neg (by omega),if_neg (by omega),if_neg (by omega),if_neg (by omega)]
   rw[if_pos (by omega),e];exact dq m _ (⟨.nothing,n,dC m.line,[],[],false,false,0,[]⟩:ar) x (e:=1) (by decide) rfl
  ·rw[if_neg (by omega)]
   by_cases k0:k=0
   ·have e:aK m k n=(⟨.nothing,n,dC m.line,[],[],false,false,0,[]⟩:ar).ends:=by
     unfold aK;simp only;rw[if_neg h0,if_pos k0]
    rw[if_pos k0,e,aO (Or.inr rfl)];exact⟨rfl,rfl,rfl,rfl,rfl,rfl⟩
   ·rw[if_neg k0]
    by_cases k1:k=1
    ·rw[if_pos k1]
     by_cases hn:n=0
     ·have e:aK m k n=(⟨.sized,n,dC m.line,[],[],false,false,0,[]⟩:ar).ends:=by
       unfold aK;simp only;rw[if_neg h0,if_neg k0,if_pos k1,if_pos hn]
      rw[e,aO (Or.inr rfl)];have hm:min (x.length:Int) n=0:=by omega
      rw[hm,hn];exact⟨rfl,rfl,rfl,rfl,rfl,rfl⟩
     ·have e:aK m k n=⟨.sized,n,dC m.line,[],[],false,false,0,[]⟩:=by
       unfold aK;simp only;rw[if_neg h0,if_neg k0,if_pos k1,if_neg hn]
      rw[e];by_cases hx:x=[]
      ·subst hx
       rw[aO (Or.inl rfl)];have hm:min ((([]:List UInt8).length:Nat):Int) n=0:=by simp;omega
       have hne:((0:Int)==n)=false:=by rw[EJ];omega
       rw[hm,hne];exact⟨rfl,rfl,rfl,rfl,rfl,rfl⟩
      ·obtain⟨q,hq⟩:∃q:Nat,(q:Int)=min (x.length:Int) n:=⟨(min (x.length:Int) n).toNat,by omega⟩
       rw[ju hx rfl]
       have hst:au m ⟨.sized,n,dC m.line,[],[],false,false,0,[]⟩ x=(if n - q=0 then (⟨.sized,n - q,dC m.line,[],[],false,false,0,[⟨3,0,⟨(x.take q).toArray⟩⟩]⟩:ar).ends else ⟨.sized,n - q,dC m.line,[],[],false,false,0,[⟨3,0,⟨(x.take q).toArray⟩⟩]⟩,q):=by
        unfold au ar.some ar.rest ar.put;simp only[<-hq,EX];rfl
       rw[hst,<-hq,EX];by_cases hz:n - (q:Int)=0
       ·have hqn:((q:Int)==n)=true:=by rw[FA];omega
        rw[hqn];simp only[if_pos hz];rw[aO (Or.inr rfl)];refine⟨rfl,rfl,rfl,rfl,rfl,?_⟩;show fP [⟨3,0,⟨(x.take q).toArray⟩⟩,⟨4,0,⟨#[]⟩⟩]=[]++x.take q;unfold fP;simp
       ·have hqn:((q:Int)==n)=false:=by rw[EJ];omega
        rw[hqn];simp only[if_neg hz];have hql:q=x.length:=by omega
        rw[aO (Or.inl (by rw[List.drop_eq_nil_iff];omega))];refine⟨rfl,rfl,rfl,rfl,rfl,?_⟩;show fP [⟨3,0,⟨(x.take q).toArray⟩⟩]=[]++x.take q;unfold fP;simp
    ·rw[if_neg k1]
     by_cases k3:k=3
     ·have e:aK m k n=⟨.rest,n,dC m.line,[],[],true,false,0,[]⟩:=by
       unfold aK;simp only;rw[if_neg h0,if_neg k0,if_neg k1,if_neg (by omega),if_pos k3]
      rw[if_pos k3,e];by_cases hx:x=[]
      ·subst hx
       rw[aO (Or.inl rfl)];exact⟨rfl,rfl,rfl,rfl,rfl,rfl⟩
      ·rw[fF (S:=⟨.rest,n,dC m.line,[],[],true,false,0,[⟨3,0,⟨x.toArray⟩⟩]⟩) (k:=x.length) (y:=[]) hx rfl rfl (List.drop_length),aO (Or.inl rfl)]
       refine⟨rfl,rfl,rfl,rfl,rfl,?_⟩;show fP [⟨3,0,⟨x.toArray⟩⟩]=[]++x;unfold fP;simp
     ·have k2:k=2:=by omega
      have e:aK m k n=sg m n []:=by
       unfold aK;simp only;rw[if_neg h0,if_neg k0,if_neg k1,if_pos k2];rfl
      rw[if_neg k3,e];exact ch_eq m x.length x n [] (x.length+1) (x.length+1) (nR _) (nR _) (nR _)
theorem CE (m:Lm) (k n:Int) (closed:Bool) (x:List UInt8) (h:(cF m (aK m k n) x).1.over=true->(cF m (aK m k n) x).1.e=0) (ht:(cF m (aK m k n) x).1.opens=true->(cF m (aK m k n) x).1.till=decide (k=3)):
 (if closed=true then bB (bE (cF m (aK m k n) x).1) else bE (cF m (aK m k n) x).1).over=(bk m k n closed x).over/\(if closed=true then bB (bE (cF m (aK m k n) x).1) else bE (cF m (aK m k n) x).1).e=(bk m k n closed x).err/\(if closed=true then bB (bE (cF m (aK m k n) x).1) else bE (cF m (aK m k n) x).1).tr=(bk m k n closed x).tr:=by
 have hr:=mY m k n x;generalize cF m (aK m k n) x=R at h ht hr ⊢;obtain⟨S,u⟩:=R;have h1:=hr.o;have h2:=hr.e;have h3:=hr.t;simp only at h ht h1 h2 h3 ⊢;unfold bk;simp only;cases closed with
 | false=>simp only[true_or,if_true,FX,if_false];exact⟨h1,h2,h3⟩
 | true=>
   simp only[Bool.true_eq_false,false_or,if_true];by_cases ho:S.opens=true
   ·obtain⟨o1,o2⟩:=gV.1 ho
    rw[h1] at o1;rw[h2] at o2;rw[if_neg (by rw[o1,o2];simp)];unfold bB;rw[if_pos (show (bE S).opens=true from ho)];by_cases hk:k=3
    ·rw[if_pos hk,if_pos (show (bE S).till=true by show S.till=true;rw[ht ho];exact dT hk)]
     exact⟨rfl,h2,h3⟩
    ·rw[if_neg hk,if_neg (show ¬(bE S).till=true by show ¬S.till=true;rw[ht ho];simp[hk])]
     exact⟨h1,rfl,h3⟩
   ·have hc:bB (bE S)=bE S:=by unfold bB;rw[if_neg (show ¬(bE S).opens=true from ho)]
    rw[hc]
    have:(bD m k n x).over=true\/(bD m k n x).err≠0:=by
     cases hov:S.over with
     | true=>exact Or.inl (by rw[<-h1];exact hov)
     | false=>
       right
       rw[<-h2];intro he;exact ho (gV.2 ⟨hov,he⟩)
    rw[if_pos this];exact⟨h1,h2,h3⟩
end Go.Proofs.YthjbodpeckebiaaGreatDoor
-- MsA
namespace Go.Proofs.YthjbodpeckebiaaGreatDoor
open Go.RowKit
def wV (h:Hd) (f:Value) (fk fl:Int) (body:ByteArray) (z t:Value):Array Value:=#[.string h.m,.string h.t,.int .i64 h.k,.int .i64 h.n,.string h.r,f,.int .i64 fk,.int .i64 fl,.string body,z,t]
theorem jO {ops:Array Oper} {o:Oper} {a:Act} {K:Act->World->Prop} {Q:Exit->Act->World->Prop} {E:Prop} (hgd:o.guard=none) (s x:Operand)
 (ho:o.op=.call { callee:=.builtin .append,args:=#[s,x],argTypes:=#[47,47] }) {w:World} {B:Nat} {v:Value} {l:List Int} (hs:a.eval s=v) (hown:bT w B v l) (y:Int)
 (g:Nat) (hg:af w g #[.int .i64 y] 3) (hx:a.eval x=.slice (some ⟨g,0,none⟩) 1 1) (hl:l.length<=1000000) (hB:B<=w.heap.size)
 (h:∀g1 c w1,bT w1 B (.slice (some ⟨g1,0,none⟩) (l.length+1) c) (l++[y])->aa (fun j=>v.ownBlock=some j) w w1->(v.ownBlock=some g1\/w.heap.size<=g1)->K (a.put o.dst (.slice (some ⟨g1,0,none⟩) (l.length+1) c)) w1):
 if Region.wanted o (yielded ops a.tmps)=true then Oper.wp Tryz.prog o a w K Q else E:=by
 obtain⟨i0,hi,hz0,hz1,hz2⟩:=info_parts pJ;refine step_append_lies _ hgd s x 47 ho B 3 i0 _ 1 8 Tryz.underlying47 hi hz0 hz1 hz2 rfl (by decide) v l.length _ hs hown ⟨g,0,none⟩ 1 1 [.int .i64 y] hx rfl ?c1 ?c2 (by decide) ?c3 ?c4 hB _ rfl ?_;case c1=>exact World.news_of_block (cs:=#[.int .i64 y]) (t:=3) (fr:=(0,0)) hg
 case c2=>simp[Value.oneCell']
 case c3=>unfold maxLen;omega
 case c4=>omega
 intro g1 c w1 hown1 hgr hat _;refine h g1 c w1 ?_ ?_ ?_
 ·show w1.ownsRow B 3 1 _ (l++[y]).length _
  rw[EY,Fo];exact hown1
 ·exact⟨hgr.os,hgr.tape,hgr.output,hgr.size,fun k hk hne=>hgr.block k hk (fun e=>hne e.symm)⟩
 ·rcases hat with h1|h1
  ·exact Or.inl h1
  ·right;omega
structure iK (w0 w:World) (G n0:Nat) (z0:Value) (h:Hd) (f:Value) (fk fl:Int) (body:ByteArray) (z t:Value) (sz:List Int):Prop where
 k:af w G (wV h f fk fl body z t) 49
 s:bT w n0 z sz
 t:aa (fun j=>j=G\/z0.ownBlock=some j) w0 w
 f:z.ownBlock=z0.ownBlock\/∀j,z.ownBlock=some j->w0.heap.size<=j
 b:n0<=w0.heap.size
theorem iK.nG {w0 w:World} {G n0:Nat} {z0:Value} {h:Hd} {f:Value} {fk fl:Int} {body:ByteArray} {z t:Value} {sz:List Int} (a:iK w0 w G n0 z0 h f fk fl body z t sz):z.ownBlock≠some G:=fun e=>by
 obtain⟨_,cs,hb⟩:=aI a.s G e;exact hb.ne a.k (by decide) rfl
theorem iK.call {w0 w w1:World} {G n0:Nat} {z0:Value} {h:Hd} {f:Value} {fk fl:Int} {body:ByteArray} {z t:Value} {sz:List Int} (a:iK w0 w G n0 z0 h f fk fl body z t sz) (hb:Below w.heap.size w w1):iK w0 w1 G n0 z0 h f fk fl body z t sz:=
 ⟨a.k.call hb,a.s.call hb,aB a.t (aa.of_below (P:=fun _=>False) hb) (fun _ _ h=>h.elim),a.f,a.b⟩
theorem iK.body {w0 w:World} {G n0:Nat} {z0:Value} {h:Hd} {f:Value} {fk fl:Int} {body:ByteArray} {z t:Value} {sz:List Int} (a:iK w0 w G n0 z0 h f fk fl body z t sz) (b2:ByteArray):iK w0 (w.setCell ⟨G,8,none⟩ (.string b2)) G n0 z0 h f fk fl b2 z t sz:=by
 have T:=(aa.refl (fun j=>j=G) w).setCell (p:=⟨G,8,none⟩) rfl (.string b2);exact⟨a.k.set 8 _,ab a.s T (fun j hj e=>a.nG (e▸hj)),aB a.t T (fun _ _ e=>Or.inl e),a.f,a.b⟩
theorem iK.size {w0 w w1:World} {G n0:Nat} {z0:Value} {h:Hd} {f:Value} {fk fl:Int} {body:ByteArray} {z t:Value} {sz:List Int} (a:iK w0 w G n0 z0 h f fk fl body z t sz) {g1 c:Nat} {y:Int}
 (o:bT w1 n0 (.slice (some ⟨g1,0,none⟩) (sz.length+1) c) (sz++[y])) (t1:aa (fun j=>z.ownBlock=some j) w w1) (hg:z.ownBlock=some g1\/w.heap.size<=g1):
 af w1 G (wV h f fk fl body z t) 49/\iK w0 (w1.setCell ⟨G,9,none⟩ (.slice (some ⟨g1,0,none⟩) (sz.length+1) c)) G n0 z0 h f fk fl body (.slice (some ⟨g1,0,none⟩) (sz.length+1) c) t (sz++[y]):=by
 have k1:=a.k.touch t1 a.nG;have t2:=(aa.refl (fun j=>j=G) w1).setCell (p:=⟨G,9,none⟩) rfl (.slice (some ⟨g1,0,none⟩) (sz.length+1) c)
 have hgG:g1≠G:=fun e=>by
  rcases hg with hg|hg
  ·exact a.nG (e▸hg)
  ·have:=a.k.lt;omega
 have tt:aa (fun j=>j=G\/z0.ownBlock=some j) w0 w1:=aB a.t t1 (fun i hi e=>by
  rcases a.f with hf|hf
  ·exact Or.inr (hf▸e)
  ·have:=hf i e;omega)
 refine⟨k1,⟨k1.set 9 _,ab o t2 (fun j hj e=>hgG (by cases hj;exact e)),aB tt t2 (fun _ _ e=>Or.inl e),?_,a.b⟩⟩;rcases hg with hg|hg
 ·rcases a.f with hf|hf
  ·left;rw[<-hf,hg];rfl
  ·right;intro j hj;cases hj;exact hf g1 hg
 ·right;intro j hj;cases hj;exact nT a.t.size hg
theorem o0 (body:ByteArray) (l:List Pc) (p:Pc) (hp:p.k=3):body++aw (fP (l++[p]))=body++aw (fP l)++p.t:=by
 apply bj;rw[kr];have e:fP [p]=p.t.data.toList:=by unfold fP;simp[hp]
 rw[e];unfold aw;simp
theorem kD (l:List Pc) (p:Pc):jJ (l++[p])=jJ l++(if p.k=2 then [p.n] else []):=by
 rw[jV];unfold jJ;by_cases h:p.k=2
 ·simp[h]
 ·simp[h]
theorem lK (l:List Pc) (p:Pc) (h:p.k≠3):fP (l++[p])=fP l:=jr l p h
theorem rH:∀l:List Pc,(fP l).length<=bQ l
 | []=>nR _
 | p :: l=>by
   have ih:=rH l;have e:bQ (p :: l)=p.t.size+bQ l:=rfl;have e2:fP (p :: l)=(if p.k=3 then p.t.data.toList else [])++fP l:=rfl;rw[e,e2,EY];split
   ·rw[<-Lib.size_eq];omega
   ·simp;omega
theorem my {w:World} {G n0 np:Nat} {z0 v:Value} {h:Hd} {f t:Value} {fk fl:Int} {body:ByteArray} {sz:List Int} {l:List Pc} (hk:af w G (wV h f fk fl body z0 t) 49) (hz:bT w n0 z0 sz) (hp:cB w np v l) (hb:n0<=w.heap.size) (hl:sz.length+l.length<=1000000) (ht:body.size+bQ l<=1000000000):
 Calls Tryz.prog 52 #[.pointer (some ⟨G,0,none⟩),v] w fun e w'=>e=.returned (.tuple #[])/\∃z,iK w w' G n0 z0 h f fk fl (body++aw (fP l)) z t (sz++jJ l):=by
 have hs:iK w w G n0 z0 h f fk fl (body++aw (fP (l.take 0))) z0 t (sz++jJ (l.take 0)):=by
  have e1:body++aw (fP (l.take 0))=body:=by apply bj;show (body++aw []).data.toList=_;unfold aw;simp
  have e2:sz++jJ (l.take 0)=sz:=Fp _;rw[e1,e2];exact⟨hk,hz,aa.refl _ _,Or.inl rfl,hb⟩
 have HS:=lH hs;have HP:=lH hp;have HL:=lH hl;have HT:=lH ht
 obtain⟨p,c,hv⟩:∃p c,v=.slice p l.length c:=by
  obtain⟨p,c,hv,_⟩:=Eb.of_own hp;exact⟨p,c,hv⟩
 have HV:=lH hv;clear hk hz hb hl ht hp hs;subst hv;go_enter Tryz.func52,Tryz.ntmps52
 go_wp2_with fail
 go_loopw [8] (fun u8 wr=>∃(k:Nat) (z:Value),k<=l.length/\u8=.int .i64 k/\iK w wr G n0 z0 h f fk fl (body++aw (fP (l.take k))) z t (sz++jJ (l.take k))/\cB wr np (.slice p l.length c) l) (fun u8 _=>l.length - (intOf u8).toNat)
 case atStart=>exact⟨0,z0,EN _,rfl,HS.out,HP.out⟩
 case round=>
  obtain⟨k,z,hkl,rfl,hat,hpi⟩:=hrel;have HA:=lH hat;have HPr:=lH hpi;clear hat hpi;by_cases hlt:k<l.length
  ·have hk1:decide ((k:Int)<(l.length:Int))=true:=dT (by omega)
   have hk2:decide (k<l.length)=true:=dT hlt;obtain⟨pp,cc,hpv,hcells⟩:=Eb.of_own HPr.out;injection hpv with hp1 _ hp3'
   subst hp1 hp3';obtain⟨b,off,rfl,q0,q1,q2⟩:=hcells k hlt;obtain⟨x,hx⟩:∃x,x=l[k]:=⟨_,rfl⟩;rw[<-hx] at q0 q1 q2;obtain⟨pk,pn,pt⟩:=x;have HLT:=lH hlt;have HX:=lH (show l[k]=⟨pk,pn,pt⟩ from hx.symm);have hkb:k<=999999:=by have:=HL.out;omega
   have hcc:(body++aw (fP (l.take k))).size+pt.size<=1000000000:=by
    have h1:=rH (l.take k);have h2:=zB l k _ HLT.out HX.out
    have h3:bQ l=bQ (l.take k)+bQ (l.drop k):=by
     rw[<-Gp k l];unfold bQ;rw[Fo,List.sum_append];simp
    have h4:=HT.out;rw[F7,dn];simp only at h2;omega
   have hszl:(sz++jJ (l.take k)).length<=999999:=by
    have h1:(jJ (l.take k)).length<=k:=nT (List.length_filterMap_le _ _) (by rw[Ge];omega);have:=HL.out;rw[EY];omega
   have HSZ:=lH hszl;clear hx hlt hkl hcells hszl;simp only at q0 q1 q2;rw[show off+3*k=off+k*3 by omega] at q0 q1 q2;go_upto_region 3 with fail
   refine dl 3 ?_;intro W hW;have hAW:iK w W G n0 z0 h f fk fl (body++aw (fP (l.take k))) z t (sz++jJ (l.take k)):=by rw[hW];exact HA.out.call ((EK _ _).alloc (nR _) _)
   have hPW:af W wr.heap.size #[.int .i64 pk,.int .i64 pn,.string pt] 80:=by rw[hW];exact af.new wr _ _
   have hPI:cB W np (.slice (some ⟨b,off,none⟩) l.length c) l:=by rw[hW];exact ab HPr.out (aa.of_below (P:=fun _=>False) ((EK _ _).alloc (nR _) _)) (fun _ _=>id)
   have HAW:=lH hAW;have HPW:=lH hPW;have HPI:=lH hPI;clear hW q0 q1 q2 hAW hPW hPI HA HPr;generalize wr.heap.size=P at HPW ⊢;obtain⟨v,hv⟩:∃v,v=Value.slice (some ⟨b,off,none⟩) l.length c:=⟨_,rfl⟩;have HVV:=lH hv;rw[<-hv] at HPI;clear hv;have x0:W.cell? ⟨P,0,none⟩=some (.int .i64 pk):=HPW.out.cell 0;have x1:W.cell? ⟨P,1,none⟩=some (.int .i64 pn):=HPW.out.cell 1;have x2:W.cell? ⟨P,2,none⟩=some (.string pt):=HPW.out.cell 2;by_cases hpk:pk=2
   ·have e2:(pk==2)=true:=by simp[hpk]
    have e3:(pk==3)=false:=by simp[hpk]
    generalize hSS:sz++jJ (l.take k)=SS at HAW HSZ;have HSS:=lH hSS;clear hSS;go_upto_region 5 with fail
    refine bm (S:=fun W=>af W P #[.int .i64 pk,.int .i64 pn,.string pt] 80) (by kernel_rfl) ?_;intro V0 hV0;have h0:af V0 P #[.int .i64 pk,.int .i64 pn,.string pt] 80:=hV0▸HPW.out.drew;have HA0:=lH (show iK w V0 G n0 z0 h f fk fl (body++aw (fP (l.take k))) z t SS from hV0▸HAW.out.call (EK _ _).drew);have HP0:=lH (show cB V0 np v l from hV0▸(ab HPI.out (aa.of_below (P:=fun _=>False) (EK _ _).drew) (fun _ _=>id)));clear hV0 x0 x1 x2;refine EL (i:=0) (v:=.pointer (some ⟨G,0,none⟩)) rfl (by kernel_rfl) (by kernel_rfl) (by kernel_rfl) (fun _ _ _ h=>h) (Or.inl ⟨by kernel_rfl,?hyh12⟩) h0 ?resth12
    case hyh12=>
     intro v hv;clear hv;go_simp
    (try simp only[Act.put,lS,lZ,lC])
    refine EL (i:=1) (v:=.pointer (some ⟨G,0,none⟩)) rfl (by kernel_rfl) (by kernel_rfl) (by kernel_rfl) (fun _ _ _ h=>h) (Or.inl ⟨by kernel_rfl,?hyh13⟩) h0 ?resth13
    case hyh13=>
     intro v hv;clear hv;go_simp
    (try simp only[Act.put,lS,lZ,lC])
    refine EL (i:=2) (v:=.pointer (some ⟨G,0,none⟩)) rfl (by kernel_rfl) (by kernel_rfl) (by kernel_rfl) (fun _ _ _ h=>h) (Or.inl ⟨by kernel_rfl,?hyh14⟩) h0 ?resth14
    case hyh14=>
     intro v hv;clear hv;go_simp
    (try simp only[Act.put,lS,lZ,lC])
    refine EL (i:=3) (v:=.pointer (some ⟨G,9,none⟩)) rfl (by kernel_rfl) (by kernel_rfl) (by kernel_rfl) (fun _ _ _ h=>h) (Or.inl ⟨by kernel_rfl,?hyh15⟩) h0 ?resth15
    case hyh15=>
     intro v hv;clear hv;go_simp
    (try simp only[Act.put,lS,lZ,lC])
    refine EL (i:=5) (v:=.pointer (some ⟨P,1,none⟩)) rfl (by kernel_rfl) (by kernel_rfl) (by kernel_rfl) (fun _ _ _ h=>h) (Or.inl ⟨by kernel_rfl,?hyh16⟩) h0 ?resth16
    case hyh16=>
     intro v hv;clear hv;go_simp
    (try simp only[Act.put,lS,lZ,lC])
    refine EL (i:=6) (v:=.int .i64 pn) rfl (by kernel_rfl) (by kernel_rfl) (by kernel_rfl) (fun _ _ _ h=>h) (Or.inl ⟨by kernel_rfl,?hyh17⟩) h0 ?resth17
    case hyh17=>
     intro v hv;have q:=hv.cell 1;simp at q;clear hv;go_simp
    (try simp only[Act.put,lS,lZ,lC])
    refine Fe (rs:=[4,7]) (by kernel_rfl) (by simp) ?_;refine EZ rfl (fun K hK=>?_) (EZ rfl (fun K hK=>?_) E9)
    ·have q:V0.cell? ⟨G,9,none⟩=some z:=HA0.out.k.cell 9
     go_simp;clear q;refine hK _ _ h0 (fun _=>?_);clear hK K;(try simp only[Act.put,lS,lZ,lC])
     refine Fe (rs:=[7]) (by kernel_rfl) (by simp) ?_;refine EZ rfl (fun K hK=>?_) E9;go_simp;have h1:af (V0.alloc (.cells #[.int .i64 pn] 3)) P #[.int .i64 pk,.int .i64 pn,.string pt] 80:=h0.alloc _;have HN:=lH (af.new V0 #[.int .i64 pn] 3);have HA1:=lH (HA0.out.call ((EK V0.heap.size V0).alloc (nR _) (.cells #[.int .i64 pn] 3)));have HP1:=lH (ab HP0.out (aa.of_below (P:=fun _=>False) ((EK V0.heap.size V0).alloc (nR _) (.cells #[.int .i64 pn] 3))) (fun _ _=>id));refine hK _ _ h1 (fun _=>?_);clear hK K h0;(try simp only[Act.put,lS,lZ,lC])
     generalize hb:V0.heap.size=b1 at HN ⊢;generalize V0.alloc (.cells #[.int .i64 pn] 3)=V1 at HN HA1 HP1 h1 ⊢;clear hb HA0 HP0;refine Fe (rs:=[8]) (by kernel_rfl) (by simp) ?_;refine EZ rfl (fun K hK=>?_) E9;refine jO rfl _ _ rfl rfl HA1.out.s pn b1 HN.out rfl (by have:=HSZ.out;omega) (nT HA1.out.b HA1.out.t.size) ?_;intro g1 c1 V2 ho2 ht2 hg2;have hq:=HA1.out.size ho2 ht2 hg2;have K2:=lH hq.1;have A2:=lH hq.2;have P2:=lH (ab HP1.out ht2 (fun j hj e=>by obtain⟨_,cs,hb⟩:=aI HP1.out j hj;obtain⟨_,cs',hb'⟩:=aI HA1.out.s j e;exact hb.ne hb' (by decide) rfl));have h2:af V2 P #[.int .i64 pk,.int .i64 pn,.string pt] 80:=h1.touch ht2 (fun e=>by obtain⟨_,cs',hb'⟩:=aI HA1.out.s P e;exact h1.ne hb' (by decide) rfl);clear ho2 ht2 hg2 hq h1 HN HA1 HP1;refine hK _ _ h2 (fun _=>?_);clear hK K;(try simp only[Act.put,lS,lZ,lC])
     refine EL (i:=9) (v:=.pointer (some ⟨G,0,none⟩)) rfl (by kernel_rfl) (by kernel_rfl) (by kernel_rfl) (fun _ _ _ h=>h) (Or.inl ⟨by kernel_rfl,?hyh18⟩) h2 ?resth18
     case hyh18=>
      intro v hv;clear hv;go_simp
     (try simp only[Act.put,lS,lZ,lC])
     refine EL (i:=10) (v:=.pointer (some ⟨G,9,none⟩)) rfl (by kernel_rfl) (by kernel_rfl) (by kernel_rfl) (fun _ _ _ h=>h) (Or.inl ⟨by kernel_rfl,?hyh19⟩) h2 ?resth19
     case hyh19=>
      intro v hv;clear hv;go_simp
     (try simp only[Act.put,lS,lZ,lC])
     refine Fe (rs:=[11]) (by kernel_rfl) (by simp) ?_;refine EZ rfl (fun K hK=>?_) E9;have zz:V2.frozen? ⟨G,9,none⟩=false:=K2.out.froz 9;have yy:V2.cell? ⟨G,9,none⟩=some z:=K2.out.cell 9;go_simp;clear zz yy;have P3:=lH (ab P2.out ((aa.refl (fun j=>j=G) V2).setCell (p:=⟨G,9,none⟩) rfl (.slice (some ⟨g1,0,none⟩) (SS.length+1) c1)) (fun j hj e=>by obtain⟨_,cs,hb⟩:=aI P2.out j hj;exact hb.ne K2.out (by decide) e));have h3:af (V2.setCell ⟨G,9,none⟩ (.slice (some ⟨g1,0,none⟩) (SS.length+1) c1)) P #[.int .i64 pk,.int .i64 pn,.string pt] 80:=h2.far (p:=⟨G,9,none⟩) (h2.ne K2.out (by decide)) _;refine hK _ _ h3 (fun _=>?_);clear hK K h2 h3;(try simp only[Act.put,lS,lZ,lC])
     refine wpAnyH_done (by kernel_rfl) ?_ _;go_wp2_with fail
     go_roundw
     case rel=>
      refine⟨k+1,.slice (some ⟨g1,0,none⟩) (SS.length+1) c1,HLT.out,rfl,?_,HVV.out▸P3.out⟩;have e:l.take (k+1)=l.take k++[⟨pk,pn,pt⟩]:=by rw[List.take_add_one,EM HLT.out];exact FH (fun q=>l.take k++[q]) HX.out
      rw[e,kD];rw[lK _ _ (show pk≠3 by rw[hpk];decide)];rw[if_pos (show (⟨pk,pn,pt⟩:Pc).k=2 from hpk),<-FZ,HSS.out];exact A2.out
     case measure=>
      have:=HLT.out;simp[intOf];omega
    ·go_simp
     have h1:af (V0.alloc (.cells #[.int .i64 pn] 3)) P #[.int .i64 pk,.int .i64 pn,.string pt] 80:=h0.alloc _;have HN:=lH (af.new V0 #[.int .i64 pn] 3);have HA1:=lH (HA0.out.call ((EK V0.heap.size V0).alloc (nR _) (.cells #[.int .i64 pn] 3)));have HP1:=lH (ab HP0.out (aa.of_below (P:=fun _=>False) ((EK V0.heap.size V0).alloc (nR _) (.cells #[.int .i64 pn] 3))) (fun _ _=>id));refine hK _ _ h1 (fun _=>?_);clear hK K h0;(try simp only[Act.put,lS,lZ,lC])
     refine Fe (rs:=[4]) (by kernel_rfl) (by simp) ?_;refine EZ rfl (fun K hK=>?_) E9;have q:(V0.alloc (.cells #[.int .i64 pn] 3)).cell? ⟨G,9,none⟩=some z:=HA1.out.k.cell 9;go_simp;clear q;refine hK _ _ h1 (fun _=>?_);clear hK K;(try simp only[Act.put,lS,lZ,lC])
     generalize hb:V0.heap.size=b1 at HN ⊢;generalize V0.alloc (.cells #[.int .i64 pn] 3)=V1 at HN HA1 HP1 h1 ⊢;clear hb HA0 HP0;refine Fe (rs:=[8]) (by kernel_rfl) (by simp) ?_;refine EZ rfl (fun K hK=>?_) E9;refine jO rfl _ _ rfl rfl HA1.out.s pn b1 HN.out rfl (by have:=HSZ.out;omega) (nT HA1.out.b HA1.out.t.size) ?_;intro g1 c1 V2 ho2 ht2 hg2;have hq:=HA1.out.size ho2 ht2 hg2;have K2:=lH hq.1;have A2:=lH hq.2;have P2:=lH (ab HP1.out ht2 (fun j hj e=>by obtain⟨_,cs,hb⟩:=aI HP1.out j hj;obtain⟨_,cs',hb'⟩:=aI HA1.out.s j e;exact hb.ne hb' (by decide) rfl));have h2:af V2 P #[.int .i64 pk,.int .i64 pn,.string pt] 80:=h1.touch ht2 (fun e=>by obtain⟨_,cs',hb'⟩:=aI HA1.out.s P e;exact h1.ne hb' (by decide) rfl);clear ho2 ht2 hg2 hq h1 HN HA1 HP1;refine hK _ _ h2 (fun _=>?_);clear hK K;(try simp only[Act.put,lS,lZ,lC])
     refine EL (i:=9) (v:=.pointer (some ⟨G,0,none⟩)) rfl (by kernel_rfl) (by kernel_rfl) (by kernel_rfl) (fun _ _ _ h=>h) (Or.inl ⟨by kernel_rfl,?hyh20⟩) h2 ?resth20
     case hyh20=>
      intro v hv;clear hv;go_simp
     (try simp only[Act.put,lS,lZ,lC])
     refine EL (i:=10) (v:=.pointer (some ⟨G,9,none⟩)) rfl (by kernel_rfl) (by kernel_rfl) (by kernel_rfl) (fun _ _ _ h=>h) (Or.inl ⟨by kernel_rfl,?hyh21⟩) h2 ?resth21
     case hyh21=>
      intro v hv;clear hv;go_simp
     (try simp only[Act.put,lS,lZ,lC])
     refine Fe (rs:=[11]) (by kernel_rfl) (by simp) ?_;refine EZ rfl (fun K hK=>?_) E9;have zz:V2.frozen? ⟨G,9,none⟩=false:=K2.out.froz 9;have yy:V2.cell? ⟨G,9,none⟩=some z:=K2.out.cell 9;go_simp;clear zz yy;have P3:=lH (ab P2.out ((aa.refl (fun j=>j=G) V2).setCell (p:=⟨G,9,none⟩) rfl (.slice (some ⟨g1,0,none⟩) (SS.length+1) c1)) (fun j hj e=>by obtain⟨_,cs,hb⟩:=aI P2.out j hj;exact hb.ne K2.out (by decide) e));have h3:af (V2.setCell ⟨G,9,none⟩ (.slice (some ⟨g1,0,none⟩) (SS.length+1) c1)) P #[.int .i64 pk,.int .i64 pn,.string pt] 80:=h2.far (p:=⟨G,9,none⟩) (h2.ne K2.out (by decide)) _;refine hK _ _ h3 (fun _=>?_);clear hK K h2 h3;(try simp only[Act.put,lS,lZ,lC])
     refine wpAnyH_done (by kernel_rfl) ?_ _;go_wp2_with fail
     go_roundw
     case rel=>
      refine⟨k+1,.slice (some ⟨g1,0,none⟩) (SS.length+1) c1,HLT.out,rfl,?_,HVV.out▸P3.out⟩;have e:l.take (k+1)=l.take k++[⟨pk,pn,pt⟩]:=by rw[List.take_add_one,EM HLT.out];exact FH (fun q=>l.take k++[q]) HX.out
      rw[e,kD];rw[lK _ _ (show pk≠3 by rw[hpk];decide)];rw[if_pos (show (⟨pk,pn,pt⟩:Pc).k=2 from hpk),<-FZ,HSS.out];exact A2.out
     case measure=>
      have:=HLT.out;simp[intOf];omega
   ·have e2:(pk==2)=false:=by simp[hpk]
    by_cases hp3:pk=3
    ·have e3:(pk==3)=true:=by simp[hp3]
     have yb:W.cell? ⟨G,8,none⟩=some (.string (body++aw (fP (l.take k)))):=HAW.out.k.cell 8;have zb:W.frozen? ⟨G,8,none⟩=false:=HAW.out.k.froz 8;generalize hBB:body++aw (fP (l.take k))=BB at HAW yb hcc;have HBB:=lH hBB;clear hBB;have HN:=lH (fun n=>(HAW.out.call (eS W n)).body (BB++pt));have HPN:=lH (fun n=>ab (ab HPI.out (aa.of_below (P:=fun _=>False) (eS W n)) (fun _ _=>id)) ((aa.refl (fun j=>j=G) (W.drewN n)).setCell (p:=⟨G,8,none⟩) rfl (.string (BB++pt))) (fun j hj e=>by obtain⟨_,cs,hb⟩:=aI HPI.out j hj;exact hb.ne HAW.out.k (by decide) e));go_upto_region 7 with fail
     refine aE 7 (by kernel_rfl) (by kernel_rfl) ?_;simp only[Ft,FG,Fz,Ff];repeat go_big_quiet_step (fail)
     refine FD ?_;rintro _ ⟨nq,rfl⟩;go_wp2_with fail
     go_roundw
     case rel=>
      refine⟨k+1,z,HLT.out,rfl,?_,HVV.out▸HPN.out nq⟩;have e:l.take (k+1)=l.take k++[⟨pk,pn,pt⟩]:=by rw[List.take_add_one,EM HLT.out];exact FH (fun q=>l.take k++[q]) HX.out
      rw[e,kD];rw[o0 body _ _ (show (⟨pk,pn,pt⟩:Pc).k=3 from hp3),HBB.out];rw[if_neg (show ¬(⟨pk,pn,pt⟩:Pc).k=2 from hpk),Fp];exact HN.out nq
     case measure=>
      have:=HLT.out;simp[intOf];omega
    ·have e3:(pk==3)=false:=by simp[hp3]
     go_wp2_with fail
     go_roundw
     case rel=>
      refine⟨k+1,z,HLT.out,rfl,?_,HVV.out▸HPI.out⟩;have e:l.take (k+1)=l.take k++[⟨pk,pn,pt⟩]:=by rw[List.take_add_one,EM HLT.out];exact FH (fun q=>l.take k++[q]) HX.out
      rw[e,kD];rw[lK _ _ (show pk≠3 from hp3)];rw[if_neg (show ¬(⟨pk,pn,pt⟩:Pc).k=2 from hpk),Fp];exact HAW.out
     case measure=>
      have:=HLT.out;simp[intOf];omega
  ·have hk1:decide ((k:Int)<(l.length:Int))=false:=dF (by omega)
   have hk2:decide (k<l.length)=false:=dF hlt;have hke:k=l.length:=by omega
   have HE:Hid (iK w wr G n0 z0 h f fk fl (body++aw (fP l)) z t (sz++jJ l)):=by
    have:=HA.out;rw[hke,F8] at this;exact this
   clear hke;go_wp2_with fail
   go_end0
   exact⟨rfl,z,HE.out⟩
end Go.Proofs.YthjbodpeckebiaaGreatDoor
-- MsP
namespace Go.Proofs.YthjbodpeckebiaaGreatDoor
open Go.RowKit
structure bG where
 hd:Hd
 fk:Int
 fl:Int
 body:List UInt8
 sizes:List Int
 tr:List Fd
inductive gI where
 | whole (M:bG) (used:Nat)
 | tail (kind err:Int)
def cD (kind:Int) (h:Hd) (method:ByteArray):Int×Int×Int:=
 if kind=1 then kT h.fs h.k
 else if (fK h.fs h.k h.n method).2.2=0/\h.n=101 then (0,0,12) else fK h.fs h.k h.n method
def ue (m:Lm) (closed:Bool) (kind:Int) (method:ByteArray) (h:Hd) (used:Nat) (x:List UInt8):gI:=
 if (cD kind h method).2.2≠0 then .tail 2 (cD kind h method).2.2
 else if (bk m (cD kind h method).1 (cD kind h method).2.1 closed x).err≠0 then .tail 2 (bk m (cD kind h method).1 (cD kind h method).2.1 closed x).err
 else if (bk m (cD kind h method).1 (cD kind h method).2.1 closed x).over=false then .tail 1 0
 else .whole ⟨h,(cD kind h method).1,(cD kind h method).2.1,(bk m (cD kind h method).1 (cD kind h method).2.1 closed x).body,(bk m (cD kind h method).1 (cD kind h method).2.1 closed x).sizes,(bk m (cD kind h method).1 (cD kind h method).2.1 closed x).tr⟩ (used+(bk m (cD kind h method).1 (cD kind h method).2.1 closed x).used)
def iJ (m:Lm) (closed:Bool) (kind:Int) (method:ByteArray) (x:List UInt8):gI:=
 if m.head<0\/65536<m.head then .tail 2 1
 else if (eG kind m.fields m.fold m.head x).e≠0 then .tail 2 (eG kind m.fields m.fold m.head x).e
 else if (eG kind m.fields m.fold m.head x).fin=false then
  (if (eG kind m.fields m.fold m.head x).begun=false then .tail 0 0 else if closed=true then .tail 2 19 else .tail 1 0)
 else ue m closed kind method (eG kind m.fields m.fold m.head x).hd (eG kind m.fields m.fold m.head x).used.toNat (x.drop (eG kind m.fields m.fold m.head x).used.toNat)
structure ED (P:fb×Nat) (G:yO):Prop where
 e:P.1.e=G.e
 f:P.1.fin=G.fin
 u:(P.2:Int)=G.used
 b:(!P.1.all.isEmpty||P.1.fin||P.1.ln.within)=G.begun
 h:G.fin=true->P.1.hd=G.hd
theorem mU (kind fields fold a:Int) (x:List UInt8):ED (cT kind fields fold x (mt a)) (eG kind fields fold a x):=by
 have h:=kU kind fields fold a x 0 0 0 [] false [] cN rfl
 have e0:(⟨⟨a - ((0:Nat):Int),0,[],!([]:List UInt8).isEmpty||false,false,false,0⟩,[],false,cN,0⟩:fb)=mt a:=by
  unfold mt dC;simp
 rw[e0] at h;unfold eG;generalize cT kind fields fold x (mt a)=P at h ⊢;generalize (cP a x 0 [] false).2=q at h ⊢;generalize dE kind fields fold (cP a x 0 [] false).1 0 []=z at h ⊢;obtain⟨z1,z2⟩:=z;cases z1 with
 | none=>
   obtain⟨h1,h2,h3,h4,h5,h6⟩:=h;refine⟨h3,h1,?_,?_,fun e=>(by cases e)⟩
   ·show (P.2:Int)=(q.2.1:Int)
    rw[<-h5];simp
   ·show _=(q.1||!z2.isEmpty)
    rw[h1,h2,<-h6];cases P.1.ln.within<;>cases z2<;>rfl
 | some hu=>
   obtain⟨h1,used⟩:=hu;obtain⟨a1,a2,a3,a4⟩:=h;refine⟨a3,a1,?_,?_,fun _=>a2⟩
   ·show (P.2:Int)=(used:Int)
    rw[<-a4];simp
   ·show _=true
    rw[a1];cases P.1.all<;>rfl
theorem AV (kind fields fold:Int):∀(x:List UInt8) (p:fb),p.fin=false->p.e=0->(cT kind fields fold x p).1.e=0->(cT kind fields fold x p).1.fin=true->0<(cT kind fields fold x p).2
 | [],p,h1,h2,h3,h4=>by
   have:p.fin=true:=h4;rw[h1] at this;cases this
 | c :: r,p,h1,h2,h3,h4=>by
   rw[cT,if_neg (by rw[h1,h2];simp)] at h3 h4 ⊢;by_cases hs:(bz p.ln c).2=0
   ·rw[if_pos hs]
    exact Nat.succ_pos _
   ·rw[if_neg hs] at h4
    have:p.fin=true:=h4;rw[h1] at this;cases this
theorem Bq (m:Lm) (k n:Int) (closed:Bool) (x:List UInt8) (hn:n<=9223372036854775807):(bk m k n closed x).used<=x.length:=by
 have h:=mY m k n x;have h2:=(kA m (x.length+1) (aK m k n) x (kW m k n hn)).2
 have h3:(bD m k n x).used<=x.length:=by
  rw[<-h.u];exact h2
 unfold bk;simp only;split
 ·exact h3
 split
 ·exact h3
 ·exact h3
theorem yo (l:List UInt8) (b most:Int) (hm:0<=most):(am l b most).1<=most:=by
 unfold am;split
 ·exact hm
 split
 ·exact hm
 split
 ·assumption
 ·exact hm
theorem wG:∀(l:List ByteArray) (f r:Int),dN f l=some r->(l=[]/\r=f)\/r<=2147483647
 | [],f,r,h=>by cases h;exact Or.inl ⟨rfl,rfl⟩
 | p :: t,f,r,h=>by
   unfold dN at h;split at h
   ·cases h
   ·right
    rcases wG t _ r h with ⟨_,h1⟩|h1
    ·rw[h1];exact yo _ _ _ (by decide)
    ·exact h1
theorem zk (fs:List Fd) (minor:Int):0<=(aQ fs minor).2.1/\(aQ fs minor).2.1<=2147483647:=by
 unfold aQ;split
 ·exact(by decide:(0:Int)<=0/\(0:Int)<=2147483647)
 split
 ·exact(by decide:(0:Int)<=0/\(0:Int)<=2147483647)
 cases hl:dZ fs with
 | none=>exact(by decide:(0:Int)<=0/\(0:Int)<=2147483647)
 | some n=>
   simp only;split
   ·exact(by decide:(0:Int)<=0/\(0:Int)<=2147483647)
   split
   ·rename_i h0
    refine⟨h0,?_⟩;rcases wG _ _ _ hl with ⟨_,h1⟩|h1
    ·show n<=_
     omega
    ·exact h1
   ·exact(by decide:(0:Int)<=0/\(0:Int)<=2147483647)
theorem lg (kind:Int) (h:Hd) (method:ByteArray):0<=(cD kind h method).2.1/\(cD kind h method).2.1<=2147483647:=by
 have h1:=zk h.fs h.k;unfold cD;split
 ·unfold kT
  split
  ·exact(by decide:(0:Int)<=0/\(0:Int)<=2147483647)
  split
  ·exact(by decide:(0:Int)<=0/\(0:Int)<=2147483647)
  ·exact h1
 split
 ·exact(by decide:(0:Int)<=0/\(0:Int)<=2147483647)
 ·unfold fK
  split
  ·exact(by decide:(0:Int)<=0/\(0:Int)<=2147483647)
  ·exact h1
theorem jm {m:Lm} {closed:Bool} {kind:Int} {method:ByteArray} {x:List UInt8} {M:bG} {u:Nat} (h:iJ m closed kind method x=.whole M u):0<u/\u<=x.length:=by
 unfold iJ at h;split at h
 ·cases h
 split at h
 ·cases h
 rename_i h1;split at h
 ·split at h
  ·cases h
  split at h
  ·cases h
  ·cases h
 rename_i h2;have hp:=mU kind m.fields m.fold m.head x;have hf:(eG kind m.fields m.fold m.head x).fin=true:=by simpa using h2
 have he:(eG kind m.fields m.fold m.head x).e=0:=by simpa using h1
 have hpos:=AV kind m.fields m.fold x (mt m.head) rfl rfl (hp.e.trans he) (hp.f.trans hf);have hle:=kO kind m.fields m.fold x (mt m.head);have hu:(eG kind m.fields m.fold m.head x).used.toNat=(cT kind m.fields m.fold x (mt m.head)).2:=by rw[<-hp.u];simp
 rw[hu] at h;unfold ue at h;split at h
 ·cases h
 split at h
 ·cases h
 split at h
 ·cases h
 ·injection h with _ h
  have hb:=Bq m (cD kind (eG kind m.fields m.fold m.head x).hd method).1 (cD kind (eG kind m.fields m.fold m.head x).hd method).2.1 closed (x.drop (cT kind m.fields m.fold x (mt m.head)).2) (by have:=(lg kind (eG kind m.fields m.fold m.head x).hd method).2;omega);rw[ES] at hb;omega
def um (m:Lm) (closed:Bool):Nat->List UInt8->Nat->List bG->List bG×(Int×Nat×Int)
 | 0,_,at_,acc=>(acc,(0,at_,0))
 | f+1,x,at_,acc=>match iJ m closed 1 ⟨#[]⟩ x with
   | .tail k e=>(acc,(k,at_,e))
   | .whole M u=>um m closed f (x.drop u) (at_+u) (acc++[M])
def ek (m:Lm) (closed:Bool):Nat->List ByteArray->List UInt8->Nat->List bG->List bG×(Int×Nat×Int)
 | 0,_,_,at_,acc=>(acc,(0,at_,0))
 | f+1,ts,x,at_,acc=>match ts with
   | []=>(acc,(if x≠[] then 3 else 0,at_,0))
   | t :: r=>match iJ m closed 2 t x with
     | .tail k e=>(acc,(k,at_,e))
     | .whole M u=>ek m closed f (if 199<M.hd.n then r else t :: r) (x.drop u) (at_+u) (acc++[M])
end Go.Proofs.YthjbodpeckebiaaGreatDoor
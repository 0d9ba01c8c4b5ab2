/- Texts packed for one claim, 52 of 52: RcC RcD RcE RcF RcG RcH MsReq. -/
import Derived.Test.YthjbodpeckebiaaGreatDoorMrsQ41
import Derived.Test.YthjbodpeckebiaaGreatDoorMrsQ47
import Derived.Test.YthjbodpeckebiaaGreatDoorMrsQ50
import Derived.Test.YthjbodpeckebiaaGreatDoorMrsQ32
import Derived.Test.YthjbodpeckebiaaGreatDoorMrsQ39
import Derived.Test.YthjbodpeckebiaaGreatDoorMrsQ51
import Derived.Deep.DeepCutAuto
set_option maxRecDepth 100000
set_option maxHeartbeats 16000000
set_option linter.unusedSimpArgs false
set_option linter.unusedVariables false
-- RcC
namespace Go.Proofs.YthjbodpeckebiaaGreatDoor
open Go.RowKit
theorem Ad (b:ByteArray) (l:List UInt8):aw (b.data.toList++l)=b++aw l:=by apply bj;unfold aw;simp
theorem BN (l:List UInt8):(aw l).data.toList=l:=by unfold aw;simp
theorem zX (m:Lm) (f:Nat) (c:UInt8) (y:List UInt8):bW m (f+1) (c :: y)=(match (cP m.line (c :: y) 0 [] false).1 with
 | []=>⟨[],[],[],(cP m.line (c :: y) 0 [] false).2.2.1,false,(cP m.line (c :: y) 0 [] false).2.2.2⟩
 | l :: _=>
   if (ak l).2≠0 then ⟨[],[],[],l.length+2,false,(ak l).2⟩
   else if (ak l).1=0 then { fW m ((c :: y).drop (l.length+2)) with used:=l.length+2+(fW m ((c :: y).drop (l.length+2))).used }
   else if (((c :: y).drop (l.length+2)).length:Int)<=(ak l).1 then ⟨(c :: y).drop (l.length+2),[(ak l).1],[],(c :: y).length,false,0⟩
   else match ((c :: y).drop (l.length+2)).drop (ak l).1.toNat with
    | []=>⟨[],[],[],0,false,0⟩
    | a :: z=>if a≠13 then ⟨((c :: y).drop (l.length+2)).take (ak l).1.toNat,[(ak l).1],[],l.length+2+(ak l).1.toNat,false,3⟩
      else match z with
       | []=>⟨((c :: y).drop (l.length+2)).take (ak l).1.toNat,[(ak l).1],[],l.length+2+(ak l).1.toNat+1,false,0⟩
       | b :: y'=>if b≠10 then ⟨((c :: y).drop (l.length+2)).take (ak l).1.toNat,[(ak l).1],[],l.length+2+(ak l).1.toNat+1,false,3⟩
         else (bW m f y').behind (((c :: y).drop (l.length+2)).take (ak l).1.toNat) (ak l).1 (l.length+2+(ak l).1.toNat+2)):=by
 rw[bW,if_neg (by simp)];cases (cP m.line (c :: y) 0 [] false).1<;>rfl
def mg (G:iI) (Bd:ByteArray) (zs:List Int) (a:Nat) (g:iI):Prop:=G=⟨Bd.data.toList++g.body,zs++g.sizes,g.tr,a+g.used,g.over,g.err⟩
inductive ChGo (m:Lm) (G:iI) (Bd:ByteArray) (zs:List Int) (x:List UInt8) (a f:Nat) (R:List (List UInt8)×Bool×Nat×Int):Prop where
 | none (h:R.1=[]) (e:G=⟨Bd.data.toList,zs,[],a+R.2.2.1,false,R.2.2.2⟩)
 | bad (l:List UInt8) (t:List (List UInt8)) (h:R.1=l :: t) (h1:(ak l).2≠0) (e:G=⟨Bd.data.toList,zs,[],a+(l.length+2),false,(ak l).2⟩)
 | last (l:List UInt8) (t:List (List UInt8)) (h:R.1=l :: t) (h1:(ak l).2=0) (h2:(ak l).1=0) (T:iI) (ht:T=fW m (x.drop (a+(l.length+2)))) (e:G=⟨Bd.data.toList,zs,T.tr,a+(l.length+2)+T.used,T.over,T.err⟩)
 | short (l:List UInt8) (t:List (List UInt8)) (n:Nat) (h:R.1=l :: t) (h1:(ak l).2=0) (h2:(ak l).1=n) (h0:0<n) (h3:x.length<=a+(l.length+2)+n) (e:G=⟨Bd.data.toList++x.drop (a+(l.length+2)),zs++[(n:Int)],[],x.length,false,0⟩)
 | whole (l:List UInt8) (t:List (List UInt8)) (n:Nat) (h:R.1=l :: t) (h1:(ak l).2=0) (h2:(ak l).1=n) (h0:0<n) (h3:a+(l.length+2)+n<x.length)
  (e0:x[a+(l.length+2)+n]'h3≠13->G=⟨Bd.data.toList++(x.drop (a+(l.length+2))).take n,zs++[(n:Int)],[],a+(l.length+2)+n,false,3⟩)
  (e1:x[a+(l.length+2)+n]'h3=13->x.length=a+(l.length+2)+n+1->G=⟨Bd.data.toList++(x.drop (a+(l.length+2))).take n,zs++[(n:Int)],[],x.length,false,0⟩)
  (e2:x[a+(l.length+2)+n]'h3=13->∀h4:a+(l.length+2)+n+1<x.length,x[a+(l.length+2)+n+1]'h4≠10->G=⟨Bd.data.toList++(x.drop (a+(l.length+2))).take n,zs++[(n:Int)],[],a+(l.length+2)+n+1,false,3⟩)
  (e3:x[a+(l.length+2)+n]'h3=13->∀h4:a+(l.length+2)+n+1<x.length,x[a+(l.length+2)+n+1]'h4=10->G=⟨(Bd.data.toList++(x.drop (a+(l.length+2))).take n)++(bW m f (x.drop (a+(l.length+2)+n+2))).body,(zs++[(n:Int)])++(bW m f (x.drop (a+(l.length+2)+n+2))).sizes,(bW m f (x.drop (a+(l.length+2)+n+2))).tr,a+(l.length+2)+n+2+(bW m f (x.drop (a+(l.length+2)+n+2))).used,(bW m f (x.drop (a+(l.length+2)+n+2))).over,(bW m f (x.drop (a+(l.length+2)+n+2))).err⟩)
theorem AZ (m:Lm) (y:List UInt8):(fW m y).body=[]/\(fW m y).sizes=[]:=by
 unfold fW;split<;>exact⟨rfl,rfl⟩
theorem ch_go {m:Lm} {G:iI} {Bd:ByteArray} {zs:List Int} {x:List UInt8} {a f:Nat} (ha:a<x.length) (h:mg G Bd zs a (bW m (f+1) (x.drop a))):ChGo m G Bd zs x a f (cP m.line (x.drop a) 0 [] false):=by
 unfold mg at h;have hd:=Fa ha;rw[hd,zX,<-hd] at h;have hxl:(x.drop a).length=x.length - a:=ES ..;obtain⟨R,hR⟩:∃R,R=cP m.line (x.drop a) 0 [] false:=⟨_,rfl⟩;rw[<-hR] at h ⊢;obtain⟨R1,R2⟩:=R;cases R1 with
 | nil=>exact .none rfl (by rw[h];simp)
 | cons l t=>
   simp only at h;have hdd:(x.drop a).drop (l.length+2)=x.drop (a+(l.length+2)):=by rw[Fb]
   rw[hdd] at h;split at h
   ·rename_i h1
    exact .bad l t rfl h1 (by rw[h];simp)
   ·rename_i h1
    have h1:(ak l).2=0:=by simpa using h1
    split at h
    ·rename_i h2
     obtain⟨b1,b2⟩:=AZ m (x.drop (a+(l.length+2)));refine .last l t rfl h1 h2 _ rfl ?_;rw[h];simp only[b1,b2,Fp,Gg]
    ·rename_i h2
     have hnn:=(fj l).1;obtain⟨n,hn⟩:∃n:Nat,(ak l).1=n:=⟨(ak l).1.toNat,by omega⟩;have h0:0<n:=by omega
     rw[hn] at h;simp only[EX] at h;have hl2:(x.drop (a+(l.length+2))).length=x.length - (a+(l.length+2)):=ES ..;split at h
     ·rename_i h3
      refine .short l t n rfl h1 hn h0 (by omega) ?_;rw[h,hxl];simp only[show a+(x.length - a)=x.length by omega]
     ·rename_i h3
      have h3':a+(l.length+2)+n<x.length:=by omega
      rw[Fb,Fa h3'] at h;simp only at h;refine .whole l t n rfl h1 hn h0 h3' (fun h5=>?_) (fun h5 h6=>?_) (fun h5 h6 h7=>?_) (fun h5 h6 h7=>?_)
      ·rw[if_pos h5] at h
       rw[h];simp only[Fp,<-Gg]
      all_goals rw[if_neg (by simpa using h5)] at h
      ·rw[E6 (by omega)] at h
       rw[h];simp only[h6];simp only[Fp,<-Gg]
      all_goals rw[Fa h6] at h
      all_goals simp only at h
      ·rw[if_pos h7] at h
       rw[h];simp only[Fp,<-Gg]
      ·rw[if_neg (by simpa using h7)] at h
       rw[h];unfold iI.behind;simp only[FZ,<-Gg,List.singleton_append]
theorem aP {w:World} {B B':Nat} {e:TypeId} {size:Nat} {v:Value} {n:Nat} {xs:List Value} (h:w.ownsRow B e size v n xs) (hB:B'<=B):w.ownsRow B' e size v n xs:=by
 obtain⟨h1,h2⟩:=h;refine⟨h1,?_⟩;rcases h2 with h2|⟨g,cap,cur,hv,hg,rest⟩
 ·exact Or.inl h2
 ·exact Or.inr ⟨g,cap,cur,hv,nT hB hg,rest⟩
structure RcAt (w wr:World) (m:Lm) (vz:Value) (Bd:ByteArray) (zs:List Int):Prop where
 o:Ov w wr
 l:Rw wr w.heap.size #[.int .i64 m.head,.int .i64 m.fields,.int .i64 m.line,.int .i64 m.body,.int .i64 m.fold] 24
 r:Rw wr (w.heap.size+1) #[.string ⟨#[]⟩,.slice none 0 0,.slice none 0 0,.int .i64 0,.bool false,.int .i64 0] 109
 g:Rw wr (w.heap.size+2) #[.string Bd,vz,.slice none 0 0,.int .i64 0,.bool false,.int .i64 0] 109
 z:bT wr (w.heap.size+3) vz zs
theorem bT.setb {W:World} {B g i:Nat} {v u:Value} {l:List Int} (h:bT W B v l) (hg:g<B):bT (W.setCell ⟨g,i,none⟩ u) B v l:=aD h hg i u
theorem pW (m:Lm) (f:Nat):bW m f []=⟨[],[],[],0,false,0⟩:=by
 cases f with
 | zero=>rfl
 | succ f=>rw[bW,if_pos rfl]
theorem Rw.cast {W:World} {g:Nat} {cs cs':Array Value} {t:TypeId} (h:Rw W g cs t) (e:cs=cs'):Rw W g cs' t:=e▸h
theorem xd {w W w4:World} {vz:Value} {zs:List Int} [h:Ov w W] (hz:bT W (w.heap.size+3) vz zs) (t:aa (fun j=>vz.ownBlock=some j) W w4):Ov w w4/\∀g cs ty [Rw W g cs ty],g<w.heap.size+3->Rw w4 g cs ty:=by
 have hb:∀j,vz.ownBlock=some j->w.heap.size+3<=j:=fun j hj=>by
  obtain⟨_,h2⟩:=hz;rcases h2 with ⟨rfl,_⟩|⟨g',cap,cur,rfl,hB,_⟩
  ·cases hj
  ·have:g'=j:=by injection hj
   omega
 exact⟨⟨h.b.trans (t.below (fun j _ hj=>by have:=hb j hj;omega) h.b.size)⟩,fun g cs ty k hg=>⟨k.b.touch t (fun hj=>by have:=hb g hj;omega)⟩⟩
theorem nK (s:ByteArray) (hs:s.size<=65536) (m:Lm) (w:World) (G:iI) (hG:G=bW m (s.data.toList.length+1) s.data.toList):
 Calls Tryz.prog 106 #[.string s,.agg #[.int .i64 m.head,.int .i64 m.fields,.int .i64 m.line,.int .i64 m.body,.int .i64 m.fold]] w
  fun e w'=>∃vz vt,e=.returned (.agg #[.string (aw G.body),vz,vt,.int .i64 (G.used:Int),.bool G.over,.int .i64 G.err])/\bT w' w.heap.size vz G.sizes/\ao w' w.heap.size vt G.tr/\Below w.heap.size w w':=by
 have HG:=lH hG;clear hG;go_enter Tryz.func106,Tryz.ntmps106
 go_wp2_with fail
 go_loopw [6] (fun u6 wr=>∃(a:Nat) (Bd:ByteArray) (zs:List Int) (vz:Value) (f:Nat),a<=s.size/\u6=.int .i64 (a:Int)/\Bd.size<=a/\zs.length<=a/\s.size - a+1<=f/\mg G Bd zs a (bW m f (s.data.toList.drop a))/\RcAt w wr m vz Bd zs) (fun u6 _=>s.size - (intOf u6).toNat)
 case atStart=>
  refine⟨0,⟨#[]⟩,[],.slice none 0 0,s.data.toList.length+1,EN _,rfl,nR _,nR _,by simp,?_,inferInstance,inferInstance,inferInstance,inferInstance,bT.start _ _⟩;unfold mg;rw[Ff,<-HG.out,GH,FQ];rfl
 case round=>
  obtain⟨a,Bd,zs,vz,f,ha,rfl,hBd,hzs,hf,hR,hW⟩:=hrel;obtain⟨h1,h2,h3,h4,h5⟩:=hW;obtain⟨pz,cz,rfl⟩:=h5.shape;have HZ:=lH h5;clear h5;have hsl:s.data.toList.length=s.size:=by simp
  rcases FM a s.size with hlt|hge
  ·obtain⟨f,rfl⟩:∃f',f=f'+1:=⟨f - 1,by omega⟩
   have hgo:=ch_go (x:=s.data.toList) (by omega) hR;obtain⟨X,hX,hXz,hXs⟩:=av s a ha;have HR:=lH fun W=>j7 X m.line W (by omega);have hrs:=jx m.line X.data.toList 0 [] false;rw[hX] at HR hrs;have hule:=kX m.line (s.data.toList.drop a) 0 [] false;rw[ES,hsl] at hrs hule;generalize cP m.line (s.data.toList.drop a) 0 [] false=R at *;obtain⟨R1,WI,US,ER⟩:=R;have hlt':decide (a<s.size)=true:=dT hlt;have HGO:=lH hgo;have HRS:=lH hrs;have HUL:=lH hule;have HF:=lH hf;clear hgo hR hrs hule hX hf hsl;go_upto_region 3 with fail
   refine AE 5 _ (by kernel_rfl) (by kernel_rfl) rfl rfl fun⟨_,_,_,_,_,_⟩=>?_;simp only[Ft,FG];repeat go_big_quiet_step (fail)
   refine FD ?_;rintro _ ⟨s0,rfl⟩ K hK;have HZ0:=lH (bT.call HZ.out s0.ok.b);go_wp2_with (go_at_call 81;refine(HR.out _).mono ?_;rintro e0 w1 ⟨v1,rfl,ho,hb⟩;obtain⟨_,_,_,_,_⟩:=fQ (w:=w) hb;have HZ1:=lH (bT.call HZ0.out hb);obtain⟨pv,cv,rfl,hc⟩:=ho.at;rw[F9];have HC:=lH hc;clear hb ho hc)
   rintro ⟨_,_,_,_,_,_⟩;simp only[Fz,Ff];repeat go_big_quiet_step (fail)
   refine FD ?_;rintro _ ⟨s1,rfl⟩;have o1:Ov w1 s1.val:=s1.ok;have o2:Ov w s1.val:=inferInstance;have r0:Rw s1.val w.heap.size #[.int .i64 m.head,.int .i64 m.fields,.int .i64 m.line,.int .i64 m.body,.int .i64 m.fold] 24:=inferInstance;have r1:Rw s1.val (w.heap.size+1) #[.string ⟨#[]⟩,.slice none 0 0,.slice none 0 0,.int .i64 0,.bool false,.int .i64 0] 109:=inferInstance;have r2:Rw s1.val (w.heap.size+2) #[.string Bd,.slice pz zs.length cz,.slice none 0 0,.int .i64 0,.bool false,.int .i64 0] 109:=inferInstance;have HZ2:=lH (bT.call HZ1.out o1.b);generalize s1.val=W1 at *;clear s1 HZ HZ0 HZ1;have hrs:=HRS.out;have hul:=HUL.out;rcases HGO.out with ⟨h,e⟩|⟨l,t,h,q1,e⟩|⟨l,t,h,q1,q2,T,ht,e⟩|⟨l,t,n,h,q1,q2,q0,q3,e⟩|⟨l,t,n,h,q1,q2,q0,q3,e0,e1,e2,e3⟩
   ·have h:R1=[]:=h
    subst h;have HE:=lH e;clear e HGO;go_wp2_with fail
    refine dd Tryz.results106 rfl Tryz.underlying109 rfl (by kernel_rfl) rfl ⟨.slice pz zs.length cz,.slice none 0 0,?_,?_,?_,Ov.of⟩
    ·rw[HE.out,du];simp
    ·rw[HE.out]
     refine aP (B:=w.heap.size+3) ?_ (by omega);repeat (refine aD ?_ (by omega) _ _)
     exact HZ2.out
    ·rw[HE.out];exact Fv _ _ _ _
   all_goals
    replace h:R1=l :: t:=h;subst h;obtain⟨b,rfl,g9,g0⟩:=HC.out 0 (by simp);have g1:w1.cell? ⟨b,0,none⟩=some (.string (aw l)):=by simpa using g0
    clear g0 g9;have g2:W1.cell? ⟨b,0,none⟩=some (.string (aw l)):=(o1.b.cell (p:=⟨b,0,none⟩) (ET _ _ g1)).trans g1;have hlz:(aw l).size=l.length:=dn l
    have hl2:a+l.length+2<=s.size:=by
     have:db (l :: t)=l.length+2+db t:=by unfold db;simp
     simp at hrs;omega
    have HP:=lH fun W=>rR (aw l) (by omega) W;rw[BN] at HP;obtain⟨⟨c1,c2⟩,hcp⟩:∃q,ak l=q:=⟨_,rfl⟩;rw[hcp] at HP;obtain⟨L,hL⟩:∃L,L=aw l:=⟨_,rfl⟩;rw[<-hL] at HP g2 hlz;have HL:=lH hL;have hal:(a:Int)+(L.size:Int)+2<=65536:=by omega
    have HLZ:=lH hlz;have HL2:=lH hl2;clear g1 hL hlz hl2 HC hrs HRS;obtain⟨N,hN⟩:∃N,N=(l :: t).length:=⟨_,rfl⟩;have hN0:((N:Int)==0)=false:=by rw[EJ,hN,EQ];omega
    have hN1:0<N:=by rw[hN];simp
    rw[<-hN];clear hN
   ·have q1:(c2 != 0)=true:=by rw[FP];rw[hcp] at q1;exact q1
    rw[hcp] at e;have HE:=lH e;clear e HGO hcp;go_wp2_with (go_at_call 135;refine(HP.out _).mono ?_;rintro e2 w2 ⟨rfl,hb⟩;obtain⟨_,_,_,_,_⟩:=fQ (w:=w) hb;have HZ3:=lH (bT.call HZ2.out hb);clear hb)
    refine dd Tryz.results106 rfl Tryz.underlying109 rfl (by kernel_rfl) rfl ⟨.slice pz zs.length cz,.slice none 0 0,?_,?_,?_,Ov.of⟩
    ·rw[HE.out,du];have:=HLZ.out;simp;omega
    ·rw[HE.out]
     refine aP (B:=w.heap.size+3) ?_ (by omega);repeat (refine aD ?_ (by omega) _ _)
     exact HZ3.out
    ·rw[HE.out];exact Fv _ _ _ _
   ·rw[hcp] at q1 q2
    simp only at q1 q2;subst q1 q2;have ea:((a+(l.length+2):Nat):Int)=(a:Int)+(L.size:Int)+2:=by have:=HLZ.out;omega
    have HTR:=lH fun W=>pj s (a+(l.length+2)) hs (by have:=HL2.out;omega) m Bd pz zs.length cz W T ht;rw[ea] at HTR;have HE:=lH e;clear e HGO hcp ht ea
    go_wp2_with (first
     | (go_at_call 135;refine(HP.out _).mono ?_;rintro e2 w2 ⟨rfl,hb⟩;obtain⟨_,_,_,_,_⟩:=fQ (w:=w) hb;have HZ3:=lH (bT.call HZ2.out hb);clear hb)
     | (go_at_call 136;refine(HTR.out _).mono ?_;rintro e3 w3 ⟨vt,rfl,hf,hb⟩;obtain⟨pf,cf,rfl⟩:=aC hf;obtain⟨_,_,_,_,_⟩:=fQ (w:=w) hb;have HZ4:=lH (bT.call HZ3.out hb);have HF3:=lH hf;clear hb hf))
    have hB:=(inferInstance:Rw w2 (w.heap.size+2) _ _).b.lt;refine dd Tryz.results106 rfl Tryz.underlying109 rfl (by kernel_rfl) rfl ⟨.slice pz zs.length cz,.slice pf T.tr.length cf,?_,?_,?_,Ov.of⟩
    ·rw[HE.out,du];have:=HLZ.out;simp
    ·rw[HE.out]
     refine aP (B:=w.heap.size+3) ?_ (by omega);repeat (refine aD ?_ (by omega) _ _)
     exact HZ4.out
    ·rw[HE.out]
     refine aP (B:=w2.heap.size) ?_ (by omega);repeat (refine aD ?_ (by omega) _ _)
     exact HF3.out
   all_goals
    rw[hcp] at q1 q2;simp only at q1 q2;subst q1 q2;have hn0:((n:Int)==0)=false:=by rw[EJ];omega
    have ea:((a+(l.length+2):Nat):Int)=(a:Int)+(L.size:Int)+2:=by have:=HLZ.out;omega
    have hzm:zs.length<=1000000:=by omega
    have hL2:=HL2.out;have hLZ:=HLZ.out;have hsl:s.data.toList.length=s.size:=by simp
   ·obtain⟨Z,hZ,hZz,hZs⟩:=av s (a+(l.length+2)) (by omega)
    rw[ea] at hZs;have hge:decide ((s.size:Int) - ((a:Int)+(L.size:Int)+2)<=(n:Int))=true:=dT (by omega);have hcz:Bd.size+Z.size<=65536:=by omega
    have HE:Hid (G=⟨(Bd++Z).data.toList,zs++[(n:Int)],[],s.size,false,0⟩):=by show _=_;rw[e,<-hZ,hsl];simp
    clear e HGO hcp ea hZ hsl hL2 hLZ q3 hZz
    go_upto_region 18 with (first
     | (go_at_call 135;refine(HP.out _).mono ?_;rintro e2 w2 ⟨rfl,hb⟩;obtain⟨_,_,_,_,_⟩:=fQ (w:=w) hb;have HZ3:=lH (bT.call HZ2.out hb);have hB:=(inferInstance:Rw w2 (w.heap.size+2) _ _).b.lt;have HB:=lH hB;clear hb hB)
     | (at_builtin;refine iF rfl _ _ rfl rfl HZ3.out (n:Int) rfl (by simp) hzm HB.out ?_;intro g4 c4 w4 ho4 ht4 _;obtain⟨_,hr⟩:=xd (w:=w) HZ3.out ht4;have k0:=hr w.heap.size _ _ (by omega);have k1:=hr (w.heap.size+1) _ _ (by omega);have k2:=hr (w.heap.size+1+1) _ _ (by omega);have HO4:=lH ho4;clear ho4 ht4 hr))
    refine AE 7 _ (by kernel_rfl) (by kernel_rfl) rfl rfl fun⟨_,_,_,_,_,_⟩=>?_;simp only[Ft,FG];repeat go_big_quiet_step (fail)
    refine FD ?_;rintro _ ⟨s2,rfl⟩ K hK;have HO5:=lH (bT.call (HO4.out.setb (g:=w.heap.size+1+1) (by omega)) s2.ok.b);go_wp2_with fail
    rintro ⟨_,_,_,_,_,_⟩;simp only[Fz,Ff];refine FD ?_;rintro _ ⟨s3,rfl⟩;have HO6:=lH (bT.call (HO5.out.setb (g:=w.heap.size+1+1) (by omega)) s3.ok.b);go_wp2_with fail
    refine dd Tryz.results106 rfl Tryz.underlying109 rfl (by kernel_rfl) rfl ⟨.slice (some ⟨g4,0,none⟩) (zs.length+1) c4,.slice none 0 0,?_,?_,?_,Ov.of⟩;rotate_left
    ·rw[HE.out]
     refine aP (B:=w.heap.size+3) ?_ (by omega);repeat (refine aD ?_ (by omega) _ _)
     exact HO6.out
    ·rw[HE.out];exact Fv _ _ _ _
    ·rw[HE.out,du];simp
   ·generalize hA':a+(l.length+2)+n=A at *
    have hA:=hA'.symm;have hAs:A<s.size:=by rw[<-hsl];exact q3
    obtain⟨Z,hZe⟩:∃Z,Z=s.extract (a+(l.length+2)) A:=⟨_,rfl⟩;have hZ:Z.data.toList=(s.data.toList.drop (a+(l.length+2))).take n:=by rw[hZe,Lib.extract_data,hA,Nat.add_sub_cancel_left]
    have hZz:Z.size=n:=by rw[hZe,Gh];omega
    have hZs:∀W:World,(Instr.slice 9 (.string s) (some (.int .i64 ((a:Int)+(L.size:Int)+2))) (some (.int .i64 ((a:Int)+(L.size:Int)+2+(n:Int)))) none).run Tryz.prog W=.ok (.string Z) W:=fun W=>by
     rw[run_slice_string W 9 s .i64 .i64 _ _ Tryz.underlying9 (by omega) (by omega) (by omega),hZe,<-ea,show (((a+(l.length+2):Nat):Int)+(n:Int))=(A:Int) by omega,EX,EX]
    have hge:decide ((s.size:Int) - ((a:Int)+(L.size:Int)+2)<=(n:Int))=false:=dF (by omega);have hcz:Bd.size+Z.size<=65536:=by omega
    have hAe:(a:Int)+(L.size:Int)+2+(n:Int)=(A:Int):=by omega
    have hZr:s.extract (a+L.size+2) A=Z:=by rw[hZe,show a+L.size+2=a+(l.length+2) by omega]
    have HAA:Hid (a+2<=A/\s.size - (A+2)+1<=f/\s.size - (A+1)+1<=f):=by have:=HF.out;exact⟨by omega,by omega,by omega⟩
    have hbn:(Bd++Z).size<=A:=by rw[F7];omega
    have hzn:(zs++[(n:Int)]).length<=A:=by rw[EY,GL];omega
    obtain⟨b0,hb0⟩:∃b,b=bt s A:=⟨_,rfl⟩;obtain⟨b1,hb1⟩:∃b,b=bt s (A+1):=⟨_,rfl⟩;have i0:∀W:World,(Instr.index 9 (.string s) (.int .i64 (A:Int))).run Tryz.prog W=.ok (.int .u8 b0) W:=aV s A hAs hb0;have i1:A+1<s.size->∀W:World,(Instr.index 9 (.string s) (.int .i64 ((A:Int)+1))).run Tryz.prog W=.ok (.int .u8 b1) W:=fun h=>aV s (A+1) h hb1;have j0:∀W:World,(Instr.index 9 (.string ⟨#[13,10]⟩) (.int .i64 0)).run Tryz.prog W=.ok (.int .u8 13) W:=aV ⟨#[13,10]⟩ 0 (by decide) (by decide +kernel);have j1:∀W:World,(Instr.index 9 (.string ⟨#[13,10]⟩) (.int .i64 1)).run Tryz.prog W=.ok (.int .u8 10) W:=aV ⟨#[13,10]⟩ 1 (by decide) (by decide +kernel);have hbd:Bd.data.toList++(s.data.toList.drop (a+(l.length+2))).take n=(Bd++Z).data.toList:=by rw[<-hZ];simp
    have hbx0:b0=((s.data.toList[A]'(by omega)).toNat:Int):=by rw[hb0,aA s A hAs];rfl
    have hbx1:∀h:A+1<s.size,b1=((s.data.toList[A+1]'(by omega)).toNat:Int):=fun h=>by rw[hb1,aA s (A+1) h];rfl
    have u13:b0=13->s.data.toList[A]'(by omega)=13:=fun h=>by apply Fg.1;rw[hbx0] at h;show _=13;omega
    have u10:∀h:A+1<s.size,(b1=10↔s.data.toList[A+1]'(by omega)=10):=fun h=>by
     rw[hbx1 h];constructor
     ·intro h1;apply Fg.1;show _=10;omega
     ·intro h1;rw[h1];rfl
    have E0:Hid (b0≠13->G=⟨(Bd++Z).data.toList,zs++[(n:Int)],[],A,false,3⟩):=fun h=>by
     have:=e0 (fun h5=>h (by rw[hbx0,h5];rfl));rw[this,hbd]
    have E1:Hid (b0=13->s.size=A+1->G=⟨(Bd++Z).data.toList,zs++[(n:Int)],[],s.size,false,0⟩):=fun h h1=>by rw[e1 (u13 h) (by rw[hsl,h1]),hbd,hsl]
    have E2:Hid (b0=13->A+1<s.size->b1≠10->G=⟨(Bd++Z).data.toList,zs++[(n:Int)],[],A+1,false,3⟩):=fun h h1 h2=>by rw[e2 (u13 h) (by rw[hsl];exact h1) (fun h3=>h2 ((u10 h1).2 h3)),hbd]
    have E3:Hid (b0=13->A+1<s.size->b1=10->mg G (Bd++Z) (zs++[(n:Int)]) (A+2) (bW m f (s.data.toList.drop (A+2)))):=fun h h1 h2=>by unfold mg;rw[e3 (u13 h) (by rw[hsl];exact h1) ((u10 h1).1 h2),hbd]
    clear e0 e1 e2 e3 HGO hcp ea hZ hsl hL2 hLZ q3 hZz hZe hbd hb0 hb1 hbx0 hbx1 u13 u10 hA hA'
    go_upto_region 21 with (first
     | (go_at_call 135;refine(HP.out _).mono ?_;rintro e2 w2 ⟨rfl,hb⟩;obtain⟨_,_,_,_,_⟩:=fQ (w:=w) hb;have HZ3:=lH (bT.call HZ2.out hb);have hB:=(inferInstance:Rw w2 (w.heap.size+2) _ _).b.lt;have HB:=lH hB;clear hb hB)
     | (at_builtin;refine iF rfl _ _ rfl rfl HZ3.out (n:Int) rfl (by simp) hzm HB.out ?_;intro g4 c4 w4 ho4 ht4 _;obtain⟨_,hr⟩:=xd (w:=w) HZ3.out ht4;have k0:=hr w.heap.size _ _ (by omega);have k1:=hr (w.heap.size+1) _ _ (by omega);have k2:=hr (w.heap.size+1+1) _ _ (by omega);have HO4:=lH ho4;clear ho4 ht4 hr))
    refine AE 10 _ (by kernel_rfl) (by kernel_rfl) rfl rfl fun⟨_,_,_,_,_,_⟩=>?_;simp only[Ft,FG];repeat go_big_quiet_step (fail)
    refine FD ?_;rintro _ ⟨s2,rfl⟩ K hK;have HO5:=lH (bT.call (HO4.out.setb (g:=w.heap.size+1+1) (by omega)) s2.ok.b);go_wp2_with fail
    rintro ⟨_,_,_,_,_,_⟩;simp only[Fz,Ff];refine FD ?_;rintro _ ⟨s3,rfl⟩;have HO6:=lH (bT.call (HO5.out.setb (g:=w.heap.size+1+1) (by omega)) s3.ok.b);have o5:Ov w s3.val:=inferInstance;have y0:Rw s3.val w.heap.size #[.int .i64 m.head,.int .i64 m.fields,.int .i64 m.line,.int .i64 m.body,.int .i64 m.fold] 24:=inferInstance;have y1:Rw s3.val (w.heap.size+1) #[.string ⟨#[]⟩,.slice none 0 0,.slice none 0 0,.int .i64 0,.bool false,.int .i64 0] 109:=inferInstance;have y3:=(inferInstance:Rw s3.val (w.heap.size+1+1) _ _);have y2:Rw s3.val (w.heap.size+1+1) #[.string (Bd++Z),.slice (some ⟨g4,0,none⟩) (zs.length+1) c4,.slice none 0 0,.int .i64 0,.bool false,.int .i64 0] 109:=y3.cast (by simp[hZr]);clear y3;generalize s3.val=W3 at *;clear s3 HO4 HO5;go_wp2_with fail
    go_loopw [6,13] (fun u6 u13 wi=>((u13=.int .i64 0/\u6=.int .i64 (A:Int))\/(u13=.int .i64 1/\u6=.int .i64 ((A:Int)+1)/\b0=13)\/(u13=.int .i64 2/\u6=.int .i64 ((A:Int)+2)/\b0=13/\A+1<s.size/\b1=10))/\RcAt w wi m (.slice (some ⟨g4,0,none⟩) (zs.length+1) c4) (Bd++Z) (zs++[(n:Int)])) (fun _ u13 _=>2 - (intOf u13).toNat)
    case atStart=>exact⟨Or.inl ⟨rfl,rfl⟩,o5,y0,y1,y2,HO6.out⟩
    case round=>
     have hA6:(A:Int)+2<=65538:=by omega
     have hAl:decide (A<s.size)=true:=dT hAs;clear o5 y0 y1 y2 HO6;obtain⟨hrel,o5,y0,y1,y2,hz6⟩:=hrel;have HO6:=lH hz6;clear hz6;rename World=>wi
     rcases hrel with ⟨rfl,rfl⟩|⟨rfl,rfl,rfl⟩|⟨rfl,rfl,rfl,h4,rfl⟩
     ·by_cases hb:b0=13
      ·subst hb
       go_upto_region 26 with fail
       refine CS (by kernel_rfl) (by kernel_rfl) fun⟨_,_,_,_,_,_⟩=>?_;repeat go_big_quiet_step (fail)
       refine FD ?_;rintro _ ⟨s4,rfl⟩;go_wp2_with fail
       go_roundw
       case rel=>exact⟨Or.inr (Or.inl ⟨rfl,rfl,by first|rfl|trivial⟩),inferInstance,inferInstance,inferInstance,inferInstance,bT.call HO6.out s4.ok.b⟩
       case measure=>decide
      ·have hb':(b0 != 13)=true:=by rw[FP];exact hb
       have HE:=lH (E0.out hb);clear hb;go_upto_region 26 with fail
       refine CS (by kernel_rfl) (by kernel_rfl) fun⟨_,_,_,_,_,_⟩=>?_;repeat go_big_quiet_step (fail)
       refine FD ?_;rintro _ ⟨s4,rfl⟩;have HO7:=lH (bT.call HO6.out s4.ok.b);go_wp2_with fail
       refine dd Tryz.results106 rfl Tryz.underlying109 rfl (by kernel_rfl) rfl ⟨.slice (some ⟨g4,0,none⟩) (zs.length+1) c4,.slice none 0 0,?_,?_,?_,Ov.of⟩;rotate_left
       ·rw[HE.out]
        refine aP (B:=w.heap.size+3) ?_ (by omega);repeat (refine aD ?_ (by omega) _ _)
        exact HO7.out
       ·rw[HE.out];exact Fv _ _ _ _
       ·rw[HE.out,du];simp
     ·rcases FM (A+1) s.size with h4|h4
      ·have i1:=i1 h4
       have h4':decide (A+1<s.size)=true:=dT h4;have h4'':decide ((A:Int)+1<(s.size:Int))=true:=dT (by omega);by_cases hb:b1=10
       ·subst hb
        go_upto_region 26 with fail
        refine CS (by kernel_rfl) (by kernel_rfl) fun⟨_,_,_,_,_,_⟩=>?_;repeat go_big_quiet_step (fail)
        refine FD ?_;rintro _ ⟨s4,rfl⟩;go_wp2_with fail
        go_roundw
        case rel=>exact⟨Or.inr (Or.inr ⟨rfl,by go_num,by first|rfl|trivial,h4,by first|rfl|trivial⟩),inferInstance,inferInstance,inferInstance,inferInstance,bT.call HO6.out s4.ok.b⟩
        case measure=>decide
       ·have hb':(b1 != 10)=true:=by rw[FP];exact hb
        have HE:=lH (E2.out rfl h4 hb);clear hb;go_upto_region 26 with fail
        refine CS (by kernel_rfl) (by kernel_rfl) fun⟨_,_,_,_,_,_⟩=>?_;repeat go_big_quiet_step (fail)
        refine FD ?_;rintro _ ⟨s4,rfl⟩;have HO7:=lH (bT.call HO6.out s4.ok.b);go_wp2_with fail
        refine dd Tryz.results106 rfl Tryz.underlying109 rfl (by kernel_rfl) rfl ⟨.slice (some ⟨g4,0,none⟩) (zs.length+1) c4,.slice none 0 0,?_,?_,?_,Ov.of⟩;rotate_left
        ·rw[HE.out]
         refine aP (B:=w.heap.size+3) ?_ (by omega);repeat (refine aD ?_ (by omega) _ _)
         exact HO7.out
        ·rw[HE.out];exact Fv _ _ _ _
        ·rw[HE.out,du];simp
      ·have h4':decide (A+1<s.size)=false:=dF (by omega)
       have h4'':decide ((A:Int)+1<(s.size:Int))=false:=dF (by omega);have hAz:s.size=A+1:=by omega
       have HE:=lH (E1.out rfl hAz);have HAZ:=lH hAz;clear h4 hAz i1;go_wp2_with fail
       go_roundw
       case rel=>
        refine⟨A+1,Bd++Z,zs++[(n:Int)],_,f,by have:=HAZ.out;omega,by go_num,by omega,by omega,HAA.out.2.2,?_,o5,y0,y1,y2,HO6.out⟩;unfold mg;rw[HE.out,E6 (by have:=HAZ.out;simp;omega),pW,HAZ.out];simp
       case measure=>have:=HAA.out;simp[intOf];omega
     ·have i1:=i1 h4
      have HE:=lH (E3.out rfl h4 rfl);go_wp2_with fail
      go_roundw
      case rel=>exact⟨A+2,Bd++Z,zs++[(n:Int)],_,f,by omega,by go_num,by omega,by omega,HAA.out.2.1,HE.out,o5,y0,y1,y2,HO6.out⟩
      case measure=>have:=HAA.out;simp[intOf];omega
  ·have hae:a=s.size:=by omega
   have HE:Hid (G=⟨Bd.data.toList,zs,[],s.size,false,0⟩):=by
    unfold mg at hR;rw[E6 (by omega),pW] at hR;show _=_;rw[hR,hae];simp
   have hlt':decide (a<s.size)=false:=dF (by omega);clear hR hf hsl hge hae;go_wp2_with fail
   refine dd Tryz.results106 rfl Tryz.underlying109 rfl (by kernel_rfl) rfl ⟨.slice pz zs.length cz,.slice none 0 0,?_,?_,?_,Ov.of⟩;rotate_left
   ·rw[HE.out]
    refine aP (B:=w.heap.size+3) ?_ (by omega);repeat (refine aD ?_ (by omega) _ _)
    exact HZ.out
   ·rw[HE.out];exact Fv _ _ _ _
   ·rw[HE.out,du];simp
end Go.Proofs.YthjbodpeckebiaaGreatDoor
-- RcD
namespace Go.Proofs.YthjbodpeckebiaaGreatDoor
open Go.RowKit
def vj (G:iI) (w:World) (e:Ending) (w':World):Prop:=∃p n c p' n' c',e=.returned (.agg #[.string (aw G.body),.slice p n c,.slice p' n' c',.int .i64 (G.used:Int),.bool G.over,.int .i64 G.err])/\bT w' w.heap.size (.slice p n c) G.sizes/\ao w' w.heap.size (.slice p' n' c') G.tr/\Below w.heap.size w w'
theorem tU (s:ByteArray) (hs:s.size<=65536) (m:Lm) (k n:Int) (w:World) (G:iI) (hG:G=bD m k n s.data.toList):
 Calls Tryz.prog 87 #[.string s,.agg #[.int .i64 k,.int .i64 n],.agg #[.int .i64 m.head,.int .i64 m.fields,.int .i64 m.line,.int .i64 m.body,.int .i64 m.fold]] w (vj G w):=by
 have hsl:s.data.toList.length=s.size:=by simp
 by_cases hb:n<0\/k<0\/3<k\/m.line<0\/65536<m.line\/m.head<0\/65536<m.head
 ·have HG:Hid (G=⟨[],[],[],0,false,1⟩):=by
   show _=_;rw[hG];unfold bD;rw[if_pos hb]
  clear hG hsl;rcases hb with h|h|h|h|h|h|h
  all_goals
   go_enter Tryz.func87,Tryz.ntmps87
   go_wp2_with fail
   all_goals exact dd Tryz.results87 rfl Tryz.underlying109 rfl (by kernel_rfl) rfl ⟨none,0,0,none,0,0,by rw[HG.out];simp[aw],by rw[HG.out];exact Fv _ _ _ _,by rw[HG.out];exact Fv _ _ _ _,Ov.of⟩
 ·unfold bD at hG
  rw[if_neg hb] at hG;simp only[not_or] at hb;obtain⟨b1,b2,b3,b4,b5,b6,b7⟩:=hb;have d1:decide (n<0)=false:=dF b1;have d2:decide (k<0)=false:=dF b2;have d3:decide (3<k)=false:=dF b3;have d4:decide (m.line<0)=false:=dF b4;have d5:decide (65536<m.line)=false:=dF b5;have d6:decide (m.head<0)=false:=dF b6;have d7:decide (65536<m.head)=false:=dF b7;have hk:k=0\/k=1\/k=3\/k=2:=by omega
  obtain⟨K,hK⟩:∃K:Nat,min (s.size:Int) n=(K:Int):=⟨(min (s.size:Int) n).toNat,by omega⟩;have hKs:K<=s.size:=by omega
  obtain⟨Z,hZ,hZz,hZs⟩:=gw s K hKs;obtain⟨GC,hGC⟩:∃GC,GC=bW m (s.data.toList.length+1) s.data.toList:=⟨_,rfl⟩;have HCH:=lH fun W=>nK s hs m W GC hGC;rw[<-hGC,hsl,hK] at hG;clear hGC;clear b1 b2 b3 b4 b5 b6 b7 hKs;rcases hk with rfl|rfl|rfl|rfl
  all_goals
   have HG:=lH hG;clear hG;go_enter Tryz.func87,Tryz.ntmps87
   go_upto_region 7 with (go_at_call 106;refine(HCH.out _).mono ?_;rintro e1 w1 ⟨vz,vt,rfl,hi,hf,hb⟩;obtain⟨p,c,rfl⟩:=hi.shape;obtain⟨p',c',rfl⟩:=aC hf;obtain⟨_,_,_,_,_⟩:=fQ (w:=w) hb;have HI:=lH (aP hi (B':=w.heap.size+3) (Nat.le_of_eq Sz.e));have HF:=lH (aP hf (B':=w.heap.size+3) (Nat.le_of_eq Sz.e));have HZ:=lH hb.size;clear hi hf hb)
  ·exact dd Tryz.results87 rfl Tryz.underlying109 rfl (by kernel_rfl) rfl ⟨none,0,0,none,0,0,by rw[HG.out];simp[aw],by rw[HG.out];exact Fv _ _ _ _,by rw[HG.out];exact Fv _ _ _ _,Ov.of⟩
  ·refine AE 9 _ (by kernel_rfl) (by kernel_rfl) rfl rfl fun⟨_,_,_,_,_,_⟩=>?_
   simp only[Ft,FG];repeat go_big_quiet_step (fail)
   refine FD ?_;rintro _ ⟨s2,rfl⟩ K' hK';go_wp2_with fail
   rintro ⟨_,_,_,_,_,_⟩;try simp only[Fz,Ff]
   refine FD ?_;first|(rintro _ ⟨s3,rfl⟩)|(rintro s3)
   go_wp2_with fail
   exact dd Tryz.results87 rfl Tryz.underlying109 rfl (by kernel_rfl) rfl ⟨none,0,0,none,0,0,by rw[HG.out];simp[Ad,<-hZ,du],by rw[HG.out];exact Fv _ _ _ _,by rw[HG.out];exact Fv _ _ _ _,Ov.of⟩
  ·exact dd Tryz.results87 rfl Tryz.underlying109 rfl (by kernel_rfl) rfl ⟨none,0,0,none,0,0,by rw[HG.out];simp[du],by rw[HG.out];exact Fv _ _ _ _,by rw[HG.out];exact Fv _ _ _ _,Ov.of⟩
  ·have hw:w.heap.size+3<=w1.heap.size:=by have:=HZ.out;simp at this;omega
   have hG:G=GC:=by have:=HG.out;rw[if_neg (by decide),if_neg (by decide),if_neg (by decide)] at this;exact this
   subst hG;refine dd Tryz.results87 rfl Tryz.underlying109 rfl (by kernel_rfl) rfl ⟨p,G.sizes.length,c,p',G.tr.length,c',by simp,?_,?_,Ov.of⟩
   ·refine aP (B:=w.heap.size+3) ?_ (by omega)
    repeat (refine aD ?_ (by omega) _ _)
    exact HI.out
   ·refine aP (B:=w.heap.size+3) ?_ (by omega)
    repeat (refine aD ?_ (by omega) _ _)
    exact HF.out
end Go.Proofs.YthjbodpeckebiaaGreatDoor
-- RcE
namespace Go.Proofs.YthjbodpeckebiaaGreatDoor
open Go.RowKit
theorem ta (s:ByteArray) (hs:s.size<=65536) (m:Lm) (closed:Bool) (k n:Int) (w:World) (G:iI) (hG:G=bk m k n closed s.data.toList):
 Calls Tryz.prog 59 #[.string s,.bool closed,.agg #[.int .i64 k,.int .i64 n],.agg #[.int .i64 m.head,.int .i64 m.fields,.int .i64 m.line,.int .i64 m.body,.int .i64 m.fold]] w (vj G w):=by
 obtain⟨g,hg⟩:∃g,g=bD m k n s.data.toList:=⟨_,rfl⟩;have HO:=lH fun W=>tU s hs m k n W g hg;unfold bk at hG;simp only[<-hg] at hG;clear hg;obtain⟨gb,gs,gt,gu,go,ge⟩:=g
 have HS:Hid (G.sizes=gs/\G.tr=gt):=by
  show _/\_;rw[hG];split
  ·exact⟨rfl,rfl⟩
  split
  ·exact⟨rfl,rfl⟩
  ·exact⟨rfl,rfl⟩
 have HG:=lH hG;clear hG;go_enter Tryz.func59,Tryz.ntmps59
 go_wp2_with (go_at_call 87;refine(HO.out _).mono ?_;rintro e1 w1 ⟨p,nn,c,p',n',c',rfl,hi,hf,hb⟩;obtain⟨o1,o2,o3,o4,o5⟩:=fQ (w:=w) hb;have HI:=lH (aP hi (B':=w.heap.size+3) (Nat.le_of_eq Sz.e));have HF:=lH (aP hf (B':=w.heap.size+3) (Nat.le_of_eq Sz.e));have HZ:=lH hb.size;clear hi hf hb)
 all_goals
  have hw:w.heap.size+3<=w1.heap.size:=by have:=HZ.out;simp at this;omega
  have hi:=World.ownsRow.lt HI.out;have hf:=World.ownsRow.lt HF.out;refine dd Tryz.results59 rfl Tryz.underlying109 rfl (by kernel_rfl) rfl ⟨p,nn,c,p',n',c',?_,?_,?_,Ov.of⟩
  ·rw[HG.out]
   clear HO HS HI HF HZ HG hi hf hw o1 o2 o3 o4 o5;(simp_all;done)
  ·rw[HS.out.1]
   refine aP (B:=w.heap.size+3) ?_ (Fj _ _)
   repeat
    with_reducible refine ownsRow_setCell_other ?_ ?_ _
    rotate_left
    ·intro e
     have h1:=hi _ e;dsimp only at h1
     omega
   with_reducible refine World.ownsRow.alloc ?_ _
   exact HI.out
  ·rw[HS.out.2]
   refine aP (B:=w.heap.size+3) ?_ (Fj _ _)
   repeat
    with_reducible refine ownsRow_setCell_other ?_ ?_ _
    rotate_left
    ·intro e
     have h1:=hf _ e;dsimp only at h1
     omega
   with_reducible refine World.ownsRow.alloc ?_ _
   exact HF.out
end Go.Proofs.YthjbodpeckebiaaGreatDoor
-- RcF
namespace Go.Proofs.YthjbodpeckebiaaGreatDoor
open Go.RowKit
theorem sL:∀l:List ByteArray,jG l=dX l+l.length
 | []=>rfl
 | s :: l=>by
   have h:=sL l;rw[bX,EQ];unfold jG at h ⊢;rw[List.map_cons,List.sum_cons,h];omega
theorem rK:∀{fs:List Fd} {g:Fd},g∈fs->g.1.size+g.2.size<=vH fs
 | f :: l,g,hg=>by
   rw[jf];rcases GT.1 hg with rfl|hg
   ·omega
   ·have:=rK hg
    omega
theorem yn {fs:List Fd} {N:Nat} (h1:vH fs<=N) (h2:fs.length<=N) (hN:N<=100000):BL fs:=by
 have a:=lJ (ay fs mR);have b:=jv mR fs;have c:=jv mT fs;refine⟨by omega,fun g hg=>by have:=rK hg;omega,fun g hg=>by have:=rK hg;omega,by omega,?_⟩;rw[sL];omega
def kj (w:World) (e:Ending) (w':World):gI->Prop
 | .tail k er=>e=.returned (.agg #[.string ⟨#[]⟩,.string ⟨#[]⟩,.int .i64 0,.int .i64 0,.string ⟨#[]⟩,.slice none 0 0,.int .i64 0,.int .i64 0,.string ⟨#[]⟩,.slice none 0 0,.slice none 0 0,.int .i64 0,.bool false,.int .i64 k,.int .i64 er])
 | .whole M u=>∃f z t,e=.returned (.agg #[.string M.hd.m,.string M.hd.t,.int .i64 M.hd.k,.int .i64 M.hd.n,.string M.hd.r,f,.int .i64 M.fk,.int .i64 M.fl,.string (aw M.body),z,t,.int .i64 (u:Int),.bool true,.int .i64 0,.int .i64 0])/\ao w' w.heap.size f M.hd.fs/\bT w' w.heap.size z M.sizes/\ao w' w.heap.size t M.tr
end Go.Proofs.YthjbodpeckebiaaGreatDoor
-- RcG
namespace Go.Proofs.YthjbodpeckebiaaGreatDoor
open Go.RowKit
theorem jd:(Tryz.prog.info? 76).map (·.size)=some 15:=by kernel_rfl
theorem Bo:(Tryz.prog.info? 109).map (·.size)=some 6:=by kernel_rfl
theorem AK {w:World} {e:Ending} {V:World} {O:gI} (h:∀U,kj w e U O):kj w e V O:=h V
def FrmAt (V1:World) (g:Nat) (a b er:Int) (v:Value) (W:World):Prop:=∃f1 f2,v=.int .i64 er/\(er=0->f1=a/\f2=b)/\Rw W g #[.int .i64 f1,.int .i64 f2] 46/\Ov V1 W
theorem uc (x:ByteArray) (hx:x.size<=65536) (m:Lm) (closed:Bool) (kind:Int) (hk:kind=1\/kind=2) (method:ByteArray) (w:World) (O:gI) (hO:O=iJ m closed kind method x.data.toList):
 Calls Tryz.prog 31 #[.string x,.bool closed,.int .i64 kind,.string method,.agg #[.int .i64 m.head,.int .i64 m.fields,.int .i64 m.line,.int .i64 m.body,.int .i64 m.fold]] w fun e w'=>kj w e w' O/\Below w.heap.size w w':=by
 obtain⟨G,hG⟩:∃G,G=eG kind m.fields m.fold m.head x.data.toList:=⟨_,rfl⟩;have HR:=lH fun V=>ux kind m.head m.fields m.line m.body m.fold x V (by omega);rw[<-hG] at HR
 have hu:∃U:Nat,G.used=(U:Int)/\U<=x.size:=by
  have h1:=(mU kind m.fields m.fold m.head x.data.toList).u;rw[<-hG] at h1;exact⟨_,h1.symm,by rw[Lib.size_eq];exact kO _ _ _ _ _⟩
 obtain⟨U,hU,hUx⟩:=hu
 have hs:G.fin=true->BL G.hd.fs:=fun h=>by
  have:=oq kind m.fields m.fold m.head x.data.toList (by rw[<-hG];exact h);rw[<-hG,<-Lib.size_eq] at this;exact yn (N:=x.size) this.1 this.2 (by omega)
 obtain⟨Y,hY,hYs,hYz⟩:=av x U hUx;unfold iJ at hO;rw[<-hG,hU,EX,<-hY] at hO;clear hG;obtain⟨⟨mm,tt,kk,nn,rr,fs⟩,used,fin,ge,begun⟩:=G;obtain rfl:used=(U:Int):=hU;obtain⟨⟨a,b,er⟩,hF⟩:∃q,cD kind ⟨mm,tt,kk,nn,rr,fs⟩ method=q:=⟨_,rfl⟩;obtain⟨B,hB⟩:∃B,B=bk m a b closed Y.data.toList:=⟨_,rfl⟩
 have HW:Hid (U+B.used<=65536):=by
  show _<=_
  have h1:B.used<=Y.size:=by
   rw[hB,Lib.size_eq];have:=(lg kind ⟨mm,tt,kk,nn,rr,fs⟩ method).2;rw[hF] at this;exact Bq _ _ _ _ _ (GN this (by decide))
  omega
 unfold ue at hO;simp only[hF,<-hB] at hO;unfold cD at hF;obtain⟨⟨a1,b1,e1⟩,hq1⟩:∃q,kT fs kk=q:=⟨_,rfl⟩;obtain⟨⟨a2,b2,e2⟩,hq2⟩:∃q,fK fs kk nn method=q:=⟨_,rfl⟩;simp only[hq1,hq2] at hF;have HF:=lH hF;have HB:=lH fun V=>ta Y (by omega) m closed a b V B hB
 have HQ:Hid (fin=true->∀W f,cu W f fs->∀V [Ov W V],Calls Tryz.prog 57 #[.agg #[.string mm,.string tt,.int .i64 kk,.int .i64 nn,.string rr,f]] V fun e w'=>e=.returned (.tuple #[.agg #[.int .i64 a1,.int .i64 b1],.int .i64 e1])/\Below V.heap.size V w'):=by
  intro h W f hf V o;have:=pu mm tt rr kk nn f fs V (hf.below o.b) (hs h);rwa [hq1] at this
 have HP:Hid (fin=true->∀W f,cu W f fs->∀V [Ov W V],Calls Tryz.prog 58 #[.agg #[.string mm,.string tt,.int .i64 kk,.int .i64 nn,.string rr,f],.string method] V fun e w'=>e=.returned (.tuple #[.agg #[.int .i64 a2,.int .i64 b2],.int .i64 e2])/\Below V.heap.size V w'):=by
  intro h W f hf V o;have:=oZ mm tt rr kk nn f fs method V (hf.below o.b) (hs h);rwa [hq2] at this
 unfold yO.row at HR;dsimp only at hO HR
 clear hs hq1 hq2 hF hB hUx hY hYs;by_cases hc:m.head<0\/65536<m.head
 ·rw[if_pos hc] at hO
  subst hO;clear HW HF HR HB HQ HP hYz;rcases hc with hc|hc
  all_goals
   go_enter Tryz.func31,Tryz.ntmps31
   go_wp2_with ((with_reducible apply aM 76 (.tmp 10) jd);exact rfl;exact rfl;exact inferInstance;exact⟨rfl,rfl⟩;kernel_rfl)
   exact dd Tryz.results31 rfl Tryz.underlying76 rfl (by kernel_rfl) rfl ⟨rfl,Ov.of⟩
 rw[if_neg hc] at hO;simp only[not_or,Int.not_lt] at hc;obtain⟨hc1,hc2⟩:=hc;have HO:=lH hO;have HK:=lH hk;clear hO hk hx;go_enter Tryz.func31,Tryz.ntmps31
 go_upto_region 12 with (first|((with_reducible apply aM 76 (.tmp 10) jd);exact rfl;exact rfl;exact inferInstance;exact⟨rfl,rfl⟩;kernel_rfl)|(go_at_call 56;refine(HR.out _).mono ?_;rintro x1 w1 ⟨f,rfl,hf,hb⟩;obtain⟨pf,cf,rfl⟩:=aC hf;obtain⟨_,_,_,_,_⟩:=fQ (w:=w) hb;have HV:=lH hf;have HV2:=lH hf.flds;clear hb hf))
 all_goals first
  | (
   refine dd Tryz.results31 rfl Tryz.underlying76 rfl (by kernel_rfl) rfl ⟨AK fun V=>?_,Ov.of⟩;have hO:=HO.out;clear HO HR HB HQ HP HF HK HV HV2 HW;simp_all [kj]
   done)
  | skip
 obtain⟨V1,hV1⟩:∃V,V=w1.alloc (.cells #[.string mm,.string tt,.int .i64 kk,.int .i64 nn,.string rr,.slice pf fs.length cf,.int .i64 (U:Int),.bool true,.int .i64 ge,.bool begun] 105):=⟨_,rfl⟩;have i1:Ov w V1:=hV1▸inferInstance;have i2:Ov w1 V1:=hV1▸inferInstance;have i3:Rw V1 w.heap.size #[.int .i64 m.head,.int .i64 m.fields,.int .i64 m.line,.int .i64 m.body,.int .i64 m.fold] 24:=hV1▸inferInstance;have i4:Rw V1 (w.heap.size+1) #[.string ⟨#[]⟩,.string ⟨#[]⟩,.int .i64 0,.int .i64 0,.string ⟨#[]⟩,.slice none 0 0,.int .i64 0,.int .i64 0,.string ⟨#[]⟩,.slice none 0 0,.slice none 0 0,.int .i64 0,.bool false,.int .i64 0,.int .i64 0] 76:=hV1▸inferInstance;have i5:Rw V1 w1.heap.size #[.string mm,.string tt,.int .i64 kk,.int .i64 nn,.string rr,.slice pf fs.length cf,.int .i64 (U:Int),.bool true,.int .i64 ge,.bool begun] 105:=hV1▸inferInstance;have j3:In w.heap.size V1:=⟨i3.b.lt⟩;have j4:In (w.heap.size+1) V1:=⟨i4.b.lt⟩;have j5:In w1.heap.size V1:=⟨i5.b.lt⟩;rw[<-hV1];clear hV1;go_upto_if 62 with (go_at_call 57;refine(HQ.out ‹_› w1 _ HV2.out _).mono ?_;rintro x2 w2 ⟨rfl,hb⟩;obtain⟨_,_,_,_,_⟩:=fQ (w:=V1) hb;have _:=(fQ (w:=w) hb).1;have _:=(fQ (w:=w1) hb).1;clear hb)
 go_cut [13] (fun v W=>FrmAt V1 w2.heap.size a b er v W)
 case first=>
  go_wp2_with (go_at_call 58;refine(HP.out ‹_› w1 _ HV2.out _).mono ?_;rintro x2 w3 ⟨rfl,hb⟩;obtain⟨_,_,_,_,_⟩:=fQ (w:=V1) hb;have _:=(fQ (w:=w) hb).1;clear hb)
  all_goals
   go_meet
   case rel=>
    have hF:=HF.out;have hk:=HK.out;clear HO HR HB HQ HP HF HK HV HV2 HW
    first
     | (refine⟨a1,b1,?_,?_,inferInstance,inferInstance⟩<;>(clear i1 i2 i3 i4 i5 j3 j4 j5;rcases hk with rfl|rfl<;>(first|(exact absurd ‹_› (by decide))|(simp[*] at hF ⊢;done)|(simp[*] at hF ⊢;omega)|(simp_all;done)|(simp_all;omega)|(subst_vars;simp_all;omega))))
     | (refine⟨a2,b2,?_,?_,Rw.cast inferInstance ?_,inferInstance⟩<;>(clear i1 i2 i3 i4 i5 j3 j4 j5;rcases hk with rfl|rfl<;>(first|(exact absurd ‹_› (by decide))|(simp[*] at hF ⊢;done)|(simp[*] at hF ⊢;omega)|(simp_all;done)|(simp_all;omega)|(subst_vars;simp_all;omega))))
 case rest=>
  obtain⟨f1,f2,rfl,hf,i6,i7⟩:=hcut;rename World=>W3
  have HF2:=lH hf;clear hf HF HQ HP HV2;have i8:=@(rel V1).1 W3 i7;have i9:=@(rel V1).2 W3 i7;have i10:Ov w W3:=Ov.trans V1;have i11:Ov w1 W3:=Ov.trans V1;go_upto_region 19 with ((with_reducible apply aM 76 (.tmp 10) jd);exact rfl;exact rfl;exact inferInstance;exact⟨rfl,rfl⟩;kernel_rfl)
  all_goals first
   | (
    refine dd Tryz.results31 rfl Tryz.underlying76 rfl (by kernel_rfl) rfl ⟨AK fun V=>?_,Ov.of⟩;have hO:=HO.out;clear HO HR HB HK HV HW HF2 i1 i2 i3 i4 i5 i6 i7 i8 i9 i10 i11 j3 j4 j5;simp_all [kj]
    done)
   | skip
  obtain rfl:er=0:=by simp_all
  obtain⟨rfl,rfl⟩:=HF2.out rfl;have hub:U+B.used<=65536:=HW.out;refine regA 7 8 _ _ #[.string ⟨#[]⟩,.slice none 0 0,.slice none 0 0,.int .i64 0,.bool false,.int .i64 0] 109 59 _ (fun v W W1=>vj B W (.returned v) W1) (by kernel_rfl) (by kernel_rfl) rfl rfl rfl rfl (by kernel_rfl) (fun _ _ d _ _ h=>by cases d<;>exact h) (fun _ _=>by go_simp) (fun V _=>(HB.out V).mono fun e w1 h=>?_) fun⟨_,_,_,_,_,_⟩=>?_
  ·obtain⟨p,n,c,p',n',c',he,hi,hf,hb⟩:=h
   exact⟨_,he,hb,⟨p,n,c,p',n',c',rfl,hi,hf,hb⟩⟩
  simp only[Ft,FG];repeat go_big_quiet_step (fail)
  refine FD ⟨fun s=>by go_simp,?_⟩;rintro v W W1 W2 g h ⟨p,n,c,p',n',c',he,hi,hf,hb⟩;injection he with he
  subst he;have HA:=lH h;have HI:=lH hi;have HT:=lH hf;obtain⟨_,_,_,_,_,_,_,_,_,_,_,_,_⟩:=h;clear hi hf hb;have j6:In w2.heap.size W3:=⟨i6.b.lt⟩;simp only[Fz,Ft,FG,Ff];refine FD ?_;go_wp2_with (first|((with_reducible apply aM 109 (.tmp 14) Bo);exact rfl;exact rfl;exact inferInstance;exact⟨rfl,rfl⟩;kernel_rfl)|((with_reducible apply aM 76 (.tmp 10) jd);exact rfl;exact rfl;exact inferInstance;exact⟨rfl,rfl⟩;kernel_rfl))
  all_goals first
   | (
    refine dd Tryz.results31 rfl Tryz.underlying76 rfl (by kernel_rfl) rfl ⟨AK fun V=>?_,Ov.of⟩;have hO:=HO.out;clear HO HR HB HK HV HW HF2 HA HI HT i1 i2 i3 i4 i5 i6 i7 i8 i9 i10 i11 j3 j4 j5 j6;simp_all [kj]
    done)
   | skip
  have hl:w.heap.size+1<W.heap.size:=FC j4.lt (HA.out.v V1).b.size;have hv:=aP HV.out (B':=w.heap.size+2) (Nat.le_of_eq Sz.e)
  obtain rfl:O=.whole ⟨⟨mm,tt,kk,nn,rr,fs⟩,f1,f2,B.body,B.sizes,B.tr⟩ (U+B.used):=by
   have hO:=HO.out;clear HO HR HB HK HV HW HF2 HA HI HT i1 i2 i3 i4 i5 i6 i7 i8 i9 i10 i11 j3 j4 j5 j6 hl hv;simp_all
  refine dd Tryz.results31 rfl Tryz.underlying76 rfl (by kernel_rfl) rfl ⟨⟨.slice pf fs.length cf,.slice p n c,.slice p' n' c',rfl,?_,?_,?_⟩,Ov.of⟩
  ·refine aP (B:=w.heap.size+2) ?_ (Fj _ _)
   refine rI ?_ (GO _);exact D5 hv
  ·refine aP (B:=W.heap.size) ?_ (HA.out.v w).b.size
   refine rI ?_ hl;exact HA.out.own HI.out Tg.t
  ·refine aP (B:=W.heap.size) ?_ (HA.out.v w).b.size
   refine rI ?_ hl;exact HA.out.own HT.out Tg.t
end Go.Proofs.YthjbodpeckebiaaGreatDoor
-- RcH
namespace Go.Proofs.YthjbodpeckebiaaGreatDoor
open Go.RowKit
def eD:gI->bO->Array Value
 | .tail k e,_=>#[.string ⟨#[]⟩,.string ⟨#[]⟩,.int .i64 0,.int .i64 0,.string ⟨#[]⟩,.slice none 0 0,.int .i64 0,.int .i64 0,.string ⟨#[]⟩,.slice none 0 0,.slice none 0 0,.int .i64 0,.bool false,.int .i64 k,.int .i64 e]
 | .whole M u,q=>#[.string M.hd.m,.string M.hd.t,.int .i64 M.hd.k,.int .i64 M.hd.n,.string M.hd.r,q.f,.int .i64 M.fk,.int .i64 M.fl,.string (aw M.body),q.z,q.t,.int .i64 (u:Int),.bool true,.int .i64 0,.int .i64 0]
theorem sN (O:gI) (q:bO):(eD O q).size=15:=by cases O<;>rfl
def eZ (w:World) (B:Nat) (O:gI) (q:bO):Prop:=(match O with | .tail _ _=>q=⟨.slice none 0 0,.slice none 0 0,.slice none 0 0⟩ | .whole M _=>bJ w B (M,q))
theorem Dl {w w':World} {e:Ending} {O:gI} (h:kj w e w' O):∃q,e=.returned (.agg (eD O q))/\eZ w' w.heap.size O q:=by
 cases O with
 | tail k er=>exact⟨_,h,rfl⟩
 | whole M u=>
   obtain⟨f,z,t,h1,h2,h3,h4⟩:=h;exact⟨⟨f,z,t⟩,h1,h2,h3,h4⟩
theorem uQ {w:World} {B:Nat} {O:gI} {q:bO} (h:eZ w B O q):(eD O q).all (·.oneCell')=true:=by
 have e1:∀s,(Value.string s).oneCell'=true:=fun _=>rfl;have e2:∀k n,(Value.int k n).oneCell'=true:=fun _ _=>rfl;have e3:∀p n c,(Value.slice p n c).oneCell'=true:=fun _ _ _=>rfl;have e4:∀b,(Value.bool b).oneCell'=true:=fun _=>rfl;cases O with
 | tail k er=>simp[eD,e1,e2,e3,e4]
 | whole M u=>simp[eD,e1,e2,e3,e4,jk h.1,jk h.2.1,jk h.2.2]
theorem eZ.call {w w1:World} {B:Nat} {O:gI} {q:bO} (h:eZ w B O q) (hb:Below w.heap.size w w1):eZ w1 B O q:=by
 cases O with
 | tail k er=>exact h
 | whole M u=>exact bJ.call (q:=(M,q)) h hb
theorem eZ.lower {w:World} {B B':Nat} {O:gI} {q:bO} (h:eZ w B O q) (hB:B'<=B):eZ w B' O q:=by
 cases O with
 | tail k er=>exact h
 | whole M u=>exact bJ.lower (q:=(M,q)) h hB
theorem eZ.touch {P:Nat->Prop} {w w1:World} {B:Nat} {O:gI} {q:bO} (h:eZ w B O q) (t:aa P w w1) {T:TypeId} (hT:T∉[95,3]) (hP:ey w P [T]):eZ w1 B O q:=by
 cases O with
 | tail k er=>exact h
 | whole M u=>exact⟨ab h.1 t (hP.own h.1 (by simp at hT ⊢;exact fun e=>hT.1 e.symm)),ab h.2.1 t (hP.own h.2.1 (by simp at hT ⊢;exact fun e=>hT.2 e.symm)),ab h.2.2 t (hP.own h.2.2 (by simp at hT ⊢;exact fun e=>hT.1 e.symm))⟩
structure jQ (w W:World) (g:Nat) (m:Lm) (O:gI) (q:bO) (v:Value) (l:List (bG×bO)):Prop where
 b:Ov w W
 s:Rw W w.heap.size #[.int .i64 m.head,.int .i64 m.fields,.int .i64 m.line,.int .i64 m.body,.int .i64 m.fold] 24
 t:Rw W (w.heap.size+1) #[.int .i64 0,.int .i64 0,.int .i64 0] 31
 d:Rw W g (eD O q) 76
 y:zG w g
 n:eZ W w.heap.size O q
 o:fH W w.heap.size v l
 i:∀q∈l,bJ W w.heap.size q
section
variable {w W W1:World} {g:Nat} {m:Lm} {O:gI} {q:bO} {v:Value} {l:List (bG×bO)}
theorem jQ.call (h:jQ w W g m O q v l) (hb:Below W.heap.size W W1):jQ w W1 g m O q v l:=
 ⟨⟨h.b.b.trans (hb.mono h.b.b.size)⟩,⟨h.s.b.call hb⟩,⟨h.t.b.call hb⟩,⟨h.d.b.call hb⟩,h.y,h.n.call hb,ab h.o (P:=fun _=>False) (aa.of_below hb) (fun _ _=>id),fun q hq=>(h.i q hq).call hb⟩
theorem jQ.push {v':Value} (h:jQ w W g m O q v l) {ob:Obj} (y:bG×bO) (hy:bJ W w.heap.size y) (o:fH W1 w.heap.size v' (l++[y])) (hg:(W.alloc ob).grownBy W1 v.ownBlock):jQ w W1 g m O q v' (l++[y]):=by
 have t:aa (fun j=>v.ownBlock=some j) W W1:=aB ((aa.refl (fun j=>v.ownBlock=some j) W).alloc ob) (Q:=fun j=>v.ownBlock=some j) ⟨hg.os,hg.tape,hg.output,hg.size,fun k hk hne=>hg.block k hk (fun e=>hne e.symm)⟩ (fun _ _ e=>e)
 have hP:ey W (fun j=>v.ownBlock=some j) [49]:=fun j hj=>by
  obtain⟨_,cs,hb⟩:=aI h.o j hj;exact⟨_,_,by decide,hb⟩
 refine⟨⟨h.b.b.trans (t.below (fun k _ hk=>(aI h.o k hk).1) h.b.b.size)⟩,⟨h.s.b.touch t (hP.not h.s.b (by decide))⟩,⟨h.t.b.touch t (hP.not h.t.b (by decide))⟩,⟨h.d.b.touch t (hP.not h.d.b (by decide))⟩,h.y,h.n.touch t (by decide) hP,o,fun q hq=>?_⟩;rcases List.mem_append.1 hq with hq|hq
 ·exact(h.i q hq).touch t hP
 ·rw[Gw.1 hq];exact hy.touch t hP
theorem jQ.read {O':gI} {q':bO} (h:jQ w W g m O q v l) (hn:eZ W w.heap.size O' q'):jQ w (W.setRow g (eD O' q')) g m O' q' v l:=by
 have T:aa (fun j=>j=g) W (W.setRow g (eD O' q')):=aa.setRow (P:=fun j=>j=g) (aa.refl _ _) rfl _;have hP:ey W (fun j=>j=g) [76]:=fun j e=>⟨_,_,by decide,e▸h.d.b⟩;refine⟨⟨h.b.b.trans (T.below (fun k _ e=>e▸h.y.le) h.b.b.size)⟩,⟨h.s.b.touch T (hP.not h.s.b (by decide))⟩,⟨h.t.b.touch T (hP.not h.t.b (by decide))⟩,⟨setRow_heap W g _ _ _ _ h.d.b⟩,h.y,hn.touch T (by decide) hP,ab h.o T (hP.own h.o (by decide)),fun q hq=>?_⟩;have hi:=h.i q hq;exact⟨ab hi.1 T (hP.own hi.1 (by decide)),ab hi.2.1 T (hP.own hi.2.1 (by decide)),ab hi.2.2 T (hP.own hi.2.2 (by decide))⟩
end
theorem il:(Tryz.prog.info? 31).map (·.size)=some 3:=by kernel_rfl
theorem vY {P:Program} {fn:Func} {R:Ending->World->Prop} {a:Act} {W:World} {p u ty g:Nat} {t:TypeId} {cs:Array Value} {d:TypeDesc} {v:Value} [h:Rw W g cs t] (hr:fn.results=#[.tmp u,.cell p ty]) (hp:a.tmps.getD p undef=.pointer (some ⟨g,0,none⟩)) (hu:P.underlying ty=some d) (hd:(match d with | .struct _ | .array _ _=>true|_=>false)=true)
 (hi:(P.info? ty).map (·.size)=some cs.size) (hf:a.defers=[]) (hv:a.tmps.getD u undef=v) (hR:R (.returned (.tuple #[v,.agg cs])) W):bodyPost P fn R .ret a W:=by
 refine EW (v:=.tuple #[v,.agg cs]) ?_ hf hR;have hl:=E7 (P:=P) W g t ty cs (0,0) d h.b hu hd hi;rw[fJ hr a.tmps P W g cs hp hl,hv]
theorem jQ.done {w W:World} {g:Nat} {m:Lm} {O:gI} {q:bO} {v:Value} {l:List (bG×bO)} (h:jQ w W g m O q v l) (cs:Array Value):fH (W.setRow (w.heap.size+1) cs) w.heap.size v l/\(∀q∈l,bJ (W.setRow (w.heap.size+1) cs) w.heap.size q)/\Below w.heap.size w (W.setRow (w.heap.size+1) cs):=by
 have T:aa (fun j=>j=w.heap.size+1) W (W.setRow (w.heap.size+1) cs):=aa.setRow (P:=fun j=>j=w.heap.size+1) (aa.refl _ _) rfl _;have hP:ey W (fun j=>j=w.heap.size+1) [31]:=fun j e=>⟨_,_,by decide,e▸h.t.b⟩;refine⟨ab h.o T (hP.own h.o (by decide)),fun q hq=>?_,h.b.b.trans (T.below (fun k _ e=>e▸FV _) h.b.b.size)⟩;have hi:=h.i q hq;exact⟨ab hi.1 T (hP.own hi.1 (by decide)),ab hi.2.1 T (hP.own hi.2.1 (by decide)),ab hi.2.2 T (hP.own hi.2.2 (by decide))⟩
def BX (w:World) (R:List bG×(Int×Nat×Int)) (e:Ending) (w':World):Prop:=∃v l,e=.returned (.tuple #[v,.agg #[.int .i64 R.2.1,.int .i64 (R.2.2.1:Int),.int .i64 R.2.2.2]])/\l.map (·.1)=R.1/\fH w' w.heap.size v l/\(∀q∈l,bJ w' w.heap.size q)/\Below w.heap.size w w'
theorem GV (x:ByteArray) (hx:x.size<=65536) (m:Lm) (closed:Bool) (w:World) {R:List bG×(Int×Nat×Int)} (hR:um m closed (x.size+1) x.data.toList 0 []=R):
 Calls Tryz.prog 11 #[.string x,.bool closed,.agg #[.int .i64 m.head,.int .i64 m.fields,.int .i64 m.line,.int .i64 m.body,.int .i64 m.fold]] w (BX w R):=by
 have HC:Hid (∀(at_:Nat) (S:ByteArray) (O:gI),O=iJ m closed 1 ⟨#[]⟩ (x.data.toList.drop at_)->S.data.toList=x.data.toList.drop at_->S.size<=65536->∀V,Calls Tryz.prog 31 #[.string S,.bool closed,.int .i64 1,.string ⟨#[]⟩,.agg #[.int .i64 m.head,.int .i64 m.fields,.int .i64 m.line,.int .i64 m.body,.int .i64 m.fold]] V fun e w'=>∃q,e=.returned (.agg (eD O q))/\eZ w' V.heap.size O q/\Below V.heap.size V w'):=by
  intro at_ S O hO hS hz V;refine(uc S hz m closed 1 (Or.inl rfl) ⟨#[]⟩ V O (by rw[hO,hS])).mono ?_;rintro e w' ⟨h,hb⟩;obtain⟨q,h1,h2⟩:=Dl h;exact⟨q,h1,h2,hb⟩
 obtain⟨O0,hO0⟩:∃O,O=iJ m closed 1 ⟨#[]⟩ (x.data.toList.drop 0):=⟨_,rfl⟩;have HC0:=lH (HC.out 0 x O0 hO0 rfl hx);have HR:=lH hR;have HX:=lH hx;have HO0:=lH hO0;clear hR hx hO0;go_enter Tryz.func11,Tryz.ntmps11
 go_wp2_with (first
  | (go_at_call 31;refine(HC0.out _).mono ?_;rintro x1 w1 ⟨q0,rfl,hn,hb⟩;obtain⟨_,_,_,_,_⟩:=fQ (w:=w) hb;have HN:=lH hn;have HB:=lH hb;clear hb hn)
  | ((with_reducible apply aM 76 (.tmp 10) jd);exact rfl;exact rfl;exact inferInstance;exact⟨sN _ _,rfl⟩;exact uQ HN.out))
 go_loopw [8,9] (fun u8 u9 wr=>∃(v:Value) (l:List (bG×bO)) (at_ f:Nat) (O:gI) (q:bO),u8=v/\u9=.int .i64 (at_:Int)/\at_<=x.size/\x.size - at_+1<=f/\l.length<=at_/\O=iJ m closed 1 ⟨#[]⟩ (x.data.toList.drop at_)/\um m closed f (x.data.toList.drop at_) at_ (l.map (·.1))=R/\jQ w wr w1.heap.size m O q v l) (fun _ u9 _=>x.size - (intOf u9).toNat)
 case atStart=>
  refine⟨_,[],0,x.size+1,O0,q0,rfl,rfl,EN _,by omega,nR _,HO0.out,HR.out,?_⟩;refine jQ.read (O:=.tail 0 0) (q:=⟨.slice none 0 0,.slice none 0 0,.slice none 0 0⟩) ⟨inferInstance,inferInstance,inferInstance,?_,inferInstance,rfl,?_,fun q hq=>by cases hq⟩ ?_
  ·exact krwN
  ·have e:=World.ownsRow_lit ((w.alloc (.cells #[.int .i64 m.head,.int .i64 m.fields,.int .i64 m.line,.int .i64 m.body,.int .i64 m.fold] 24)).alloc (.cells #[.int .i64 0,.int .i64 0,.int .i64 0] 31)) #[] 0 (e:=49) (size:=11) (nR _) (by decide) rfl
   have e2:=aP (B':=w.heap.size) e (by simp;omega);simp only[World.size_alloc] at e2;exact ab (ab e2 (P:=fun _=>False) (aa.of_below HB.out) (fun _ _=>id)) (P:=fun _=>False) ((aa.refl _ _).alloc _) (fun _ _=>id)
  ·exact(HN.out.call ((EK _ _).alloc (nR _) _)).lower (by simp;omega)
 case round=>
  obtain⟨v,l,at_,f,O,q,rfl,rfl,hat,hf,hll,hO,hr,hq⟩:=hrel;obtain⟨f,rfl⟩:∃f',f=f'+1:=⟨f - 1,by omega⟩;have HQ:=lH hq;have HAT:=lH hat;rw[um,<-hO] at hr;have i0:Ov w wr:=hq.b;have i1:=hq.s;have i2:=hq.t;clear hq hat;cases O with
  | tail k e=>
    have HRR:Hid ((l.map (·.1),(k,at_,e))=R):=hr;have i3:Rw wr w1.heap.size #[.string ⟨#[]⟩,.string ⟨#[]⟩,.int .i64 0,.int .i64 0,.string ⟨#[]⟩,.slice none 0 0,.int .i64 0,.int .i64 0,.string ⟨#[]⟩,.slice none 0 0,.slice none 0 0,.int .i64 0,.bool false,.int .i64 k,.int .i64 e] 76:=HQ.out.d;clear hr hO hf hll;go_wp2_with fail
    refine regT 8 (by kernel_rfl) (by kernel_rfl) fun⟨_,_,_,_,_,_⟩=>?_;simp only[Ft,FG];repeat go_big_quiet_step (fail)
    refine FD fun s=>?_;simp only[Fz,Ff];go_wp2_with ((with_reducible apply aM 31 (.tmp 7) il);exact rfl;exact rfl;exact inferInstance;exact⟨rfl,rfl⟩;kernel_rfl)
    obtain rfl:=HRR.out;obtain⟨g1,g2,g3⟩:=(HQ.out.call s.ok.b).done #[.int .i64 k,.int .i64 (at_:Int),.int .i64 e];exact vY Tryz.results11 rfl Tryz.underlying31 rfl (by kernel_rfl) rfl rfl ⟨_,l,rfl,rfl,g1,g2,g3⟩
  | whole M u=>
    obtain⟨⟨Mm,Mt,Mk,Mn,Mr,Mf⟩,Mfk,Mfl,Mb,Ms,Mtr⟩:=M;obtain⟨qf,qz,qt⟩:=q;have i3:Rw wr w1.heap.size #[.string Mm,.string Mt,.int .i64 Mk,.int .i64 Mn,.string Mr,qf,.int .i64 Mfk,.int .i64 Mfl,.string (aw Mb),qz,qt,.int .i64 (u:Int),.bool true,.int .i64 0,.int .i64 0] 76:=HQ.out.d;have HY:Hid (bJ wr w.heap.size (⟨⟨Mm,Mt,Mk,Mn,Mr,Mf⟩,Mfk,Mfl,Mb,Ms,Mtr⟩,⟨qf,qz,qt⟩)):=HQ.out.n;obtain⟨u0,u1⟩:=jm hO.symm;rw[ES,<-Lib.size_eq] at u1;obtain⟨S,hS,hSz,hsl⟩:=av x (at_+u) (by have:=HAT.out;omega);rw[Int.natCast_add] at hsl;obtain⟨O',hO'⟩:∃O,O=iJ m closed 1 ⟨#[]⟩ (x.data.toList.drop (at_+u)):=⟨_,rfl⟩;have HC1:=lH (HC.out (at_+u) S O' hO' hS (by have:=HX.out;omega));have hw64:wrap64 ((at_:Int)+(u:Int))=(at_:Int)+(u:Int):=FY _ ⟨by omega,by have:=HX.out;omega⟩;have HLL:=lH hll;have HU:=lH (And.intro u0 u1);have HRR:=lH hr;have HFF:=lH hf;have HO':=lH hO';clear hr hO hf hll u0 u1 hO' hS hSz;obtain⟨fp,fc,hfp⟩:∃p c,qf=.slice p Mf.length c:=aC HY.out.1;subst hfp;obtain⟨zp,zc,hzp⟩:∃p c,qz=.slice p Ms.length c:=aC HY.out.2.1;subst hzp;obtain⟨tp,tc,htp⟩:∃p c,qt=.slice p Mtr.length c:=aC HY.out.2.2;subst htp;go_upto_region 6 with (at_builtin;refine dH rfl _ _ rfl rfl HQ.out.o _ HY.out rfl (by simp) (by have:=HLL.out;have:=HAT.out;have:=HX.out;omega) i0.b.size ?_;intro p4 c4 w4 ho4 hg4 hb4;have HQ4:=lH (HQ.out.push _ HY.out ho4 hg4);have i4:Rw w4 w1.heap.size #[.string Mm,.string Mt,.int .i64 Mk,.int .i64 Mn,.string Mr,.slice fp _ fc,.int .i64 Mfk,.int .i64 Mfl,.string (aw Mb),.slice zp _ zc,.slice tp _ tc,.int .i64 (u:Int),.bool true,.int .i64 0,.int .i64 0] 76:=HQ4.out.d;have i5:=HQ4.out.s;clear ho4 hg4 hb4)
    refine regT 5 (by kernel_rfl) (by kernel_rfl) fun⟨_,_,_,_,_,_⟩=>?_;simp only[Ft,FG];repeat go_big_quiet_step (fail)
    refine FD fun s=>?_;simp only[Fz,Ff];have HQ5:=lH (HQ4.out.call s.ok.b)
    go_wp2_with (first
     | (go_at_call 31;refine(HC1.out _).mono ?_;rintro x2 w6 ⟨q',rfl,hn,hb⟩;have HN6:=lH (hn.lower HQ5.out.b.b.size);have HQ6:=lH (HQ5.out.call hb);clear hb hn)
     | ((with_reducible apply aM 76 (.tmp 10) jd);exact rfl;exact rfl;exact HQ6.out.d;exact⟨sN _ _,sN _ _⟩;exact uQ HN6.out))
    go_roundw
    case rel=>
     have h1:=HU.out.1;have h2:=HU.out.2;have h3:=HFF.out;have h4:=HLL.out;have h5:=HAT.out;refine⟨_,_,at_+u,f,O',q',rfl,by simp,by omega,by omega,by rw[EY];simp only[EQ,F5];omega,HO'.out,?_,HQ6.out.read HN6.out⟩;rw[Fo,<-Fb];exact HRR.out
    case measure=>
     have h1:=HU.out.1;have h2:=HU.out.2;simp[intOf];omega
end Go.Proofs.YthjbodpeckebiaaGreatDoor
-- MsReq
namespace Go.Proofs.YthjbodpeckebiaaGreatDoor
open Go.RowKit
theorem GW (x:ByteArray) (closed:Bool) (vm:Value) (ms:List ByteArray) (a fields c d fold cut:Int) (w:World) (hv:cQ w vm ms) (hml:ms.length<=9223372036854775807) (hfi:-9223372036854775808<=fields/\fields<=9223372036854775807) {mx:Int} (hm:w.cell? ⟨0,0,none⟩=some (.int .i64 mx)):
 Calls Tryz.prog 3 #[.agg #[.string x,.bool closed,vm,.int .i64 a,.int .i64 fields,.int .i64 c,.int .i64 d,.int .i64 fold,.int .i64 cut]] w fun e w'=>e=.returned (.bool true)/\Below w.heap.size w w':=by
 have hw:0<w.heap.size:=ET w _ hm;have HLV:=lH fun W [o:Ov w W]=>vw (bI hm hw o.b);obtain⟨F,hF⟩:∃F,F=yL x ms:=⟨_,rfl⟩;have HFW:=lH fun W [o:Ov w W]=>zW x closed vm ms a fields c d fold cut W (hv.below o.b) hml;rw[<-hF] at HFW
 have hs:F=true->x.size<=2000/\ms.length<=30:=fun h=>by
  have:=yE (hF.symm.trans h);exact⟨this.1,this.2.1⟩
 have hxl:=Lib.size_eq x;obtain⟨⟨L,p,q,z⟩,hR⟩:∃R,um ⟨a,fields,c,d,fold⟩ closed (x.size+1)  x.data.toList 0 []=R:=⟨_,rfl⟩
 have HQ:Hid (F=true->∀V [Ov w V],Calls Tryz.prog 10 #[.string x,.bool closed,.agg #[.int .i64 a,.int .i64 fields,.int .i64 c,.int .i64 d,.int .i64 fold]] V fun e w'=>∃v l,e=.returned (.tuple #[v,.agg #[.int .i64 p,.int .i64 (q:Int),.int .i64 z]])/\(l.map (·.1)=L/\jF w' v l)/\Below V.heap.size V w'):=by
  intro h V o;refine(yG x closed a fields c d fold V  hfi (bI hm hw o.b) (by have:=hs h;omega) hR).mono ?_;rintro e w' ⟨v,l,h1,h2,h3,h4,h5⟩;exact⟨v,l,h1,⟨h2,h3.msgs h4⟩,h5⟩
 have HR:Hid (F=true->∀V [Ov w V],Calls Tryz.prog 11 #[.string x,.bool closed,.agg #[.int .i64 a,.int .i64 fields,.int .i64 c,.int .i64 d,.int .i64 fold]] V fun e w'=>∃v l,e=.returned (.tuple #[v,.agg #[.int .i64 p,.int .i64 (q:Int),.int .i64 z]])/\(l.map (·.1)=L/\jF w' v l)/\Below V.heap.size V w'):=by
  intro h V o;refine(GV x (by have:=hs h;omega) ⟨a,fields,c,d,fold⟩ closed V hR).mono ?_;rintro e w' ⟨v,l,h1,h2,h3,h4,h5⟩;exact⟨v,l,h1,⟨h2,h3.msgs h4⟩,h5⟩
 have HS:Hid (F=true->∀V v1 v2 l1 l2,l1.map (·.1)=L->l2.map (·.1)=L->jF V v1 l1->jF V v2 l2->Calls Tryz.prog 12 #[v1,v2] V fun e w'=>e=.returned (.bool true)/\Below V.heap.size V w'):=by
  intro h V v1 v2 l1 l2 h1 h2 h3 h4;have h9:=hs h;refine t4 v1 v2 l1 l2 V h3 h4 (h1.trans h2.symm) (fun q hq=>?_) ?_
  ·have:=me ⟨a,fields,c,d,fold⟩ closed (x.size+1)  x.data.toList 0 [] (by omega) (fun q hq=>by cases hq)
   rw[hR] at this;exact this _ (h1▸List.mem_map_of_mem hq)
  ·have h8:=j2 ⟨a,fields,c,d,fold⟩ closed (x.size+1)  x.data.toList 0 []
   rw[hR] at h8;have h7:=FH List.length h1;simp only[F9,F5] at h7 h8;omega
 have e0:(p==p)=true:=beq_self_eq_true _;have e1:(z==z)=true:=beq_self_eq_true _;obtain⟨pm,cm,rfl,-⟩:=hv;obtain⟨nm,hnm⟩:∃n,n=ms.length:=⟨_,rfl⟩;simp only[<-hnm] at HFW HQ HR ⊢;clear hs hR hF hxl hm hw hfi hml hnm;cases F
 all_goals
  try (
   replace HQ:=lH (HQ.out rfl);replace HR:=lH (HR.out rfl)
   replace HS:=lH (HS.out rfl))
  go_enter Tryz.func3,Tryz.ntmps3
  go_wp2_with (first
   | (go_at_call 8;refine(HFW.out _).mono ?_;rintro x1 w1 ⟨rfl,hb⟩;obtain⟨_,_,_,_,_⟩:=fQ (w:=w) hb;clear hb)
   | (go_at_call 9;refine(HLV.out _).mono ?_;rintro x1 w1 ⟨rfl,hb⟩;obtain⟨_,_,_,_,_⟩:=fQ (w:=w) hb;clear hb)
   | (go_at_call 10;refine(HQ.out _).mono ?_;rintro x1 w4 ⟨v1,l1,rfl,hl,hb⟩;have H1:=lH hl;obtain⟨_,_,_,_,_⟩:=fQ (w:=w) hb;clear hb hl)
   | (go_at_call 11;refine(HR.out _).mono ?_;rintro x1 w5 ⟨v2,l2,rfl,hl,hb⟩;have H2:=lH fun V [o:Ov w4 V] [o':Ov w5 V]=>HS.out V v1 v2 l1 l2 H1.out.1 hl.1 (H1.out.2.below o.b) (hl.2.below o'.b);obtain⟨_,_,_,_,_⟩:=fQ (w:=w) hb;have:=(fQ (w:=w4) hb).1;clear hb hl)
   | (go_at_call 12;refine(H2.out _).mono ?_;rintro x1 w6 ⟨rfl,hb⟩;obtain⟨_,_,_,_,_⟩:=fQ (w:=w) hb;clear hb)
   | ((with_reducible apply aM 31 (.tmp 4) il);exact rfl;exact rfl;exact inferInstance;exact⟨rfl,rfl⟩;kernel_rfl)
   | ((with_reducible apply aM 31 (.tmp 6) il);exact rfl;exact rfl;exact inferInstance;exact⟨rfl,rfl⟩;kernel_rfl))
  go_ret;exact⟨rfl,Ov.of⟩
end Go.Proofs.YthjbodpeckebiaaGreatDoor
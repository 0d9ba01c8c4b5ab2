/- Texts packed for one claim, 41 of 52: RcA RcB. -/
import Derived.Test.YthjbodpeckebiaaGreatDoorMrsQ39
import Derived.Test.YthjbodpeckebiaaGreatDoorMrsQ40
import Derived.Test.YthjbodpeckebiaaGreatDoorMrsQ4
import Derived.Deep.DeepCutAuto
import Derived.Test.YthjbodpeckebiaaGreatDoorMrsQ7
set_option maxRecDepth 100000
set_option maxHeartbeats 16000000
set_option linter.unusedSimpArgs false
set_option linter.unusedVariables false
-- RcA
namespace Go.Proofs.YthjbodpeckebiaaGreatDoor
open Go.RowKit
theorem tok_x {c:UInt8} (r:List UInt8) (hc:c=59\/c=32\/c=9):aU (120 :: c :: r)=1:=by
 have h1:tkB 120=true:=by decide
 have h2:tkB c=false:=by rcases hc with rfl|rfl|rfl<;>decide
 unfold aU;rw[Gi,h1,if_pos rfl,Gi,h2];rfl
theorem zN (l:List UInt8):wa l=(cy l).isSome:=by
 cases l with
 | nil=>rw[jp];rfl
 | cons c r=>
   show decide ((aW ⟨(120 :: c :: r).toArray⟩).2.2=0/\(c=59\/c=32\/c=9))=_;by_cases hc:c=59\/c=32\/c=9
   ·have hw:aW ⟨(120 :: c :: r).toArray⟩=match cy (c :: r) with
     | none=>(⟨#[]⟩,0,3)
     | some k=>(br ((⟨(120 :: c :: r).toArray⟩:ByteArray).extract 0 1),k,0):=by
     unfold aW
     have hs:(⟨(120 :: c :: r).toArray⟩:ByteArray).size≠0:=by
      show (120 :: c :: r).toArray.size≠0;simp
     rw[if_neg hs];have e:(⟨(120 :: c :: r).toArray⟩:ByteArray).data.toList=120 :: c :: r:=rfl;rw[e,tok_x r hc,if_neg (by decide)];rfl
    rw[hw];cases cy (c :: r) with
    | none=>simp
    | some k=>simp[hc]
   ·have hp:cV (c :: r)=none:=by
     have hb:m9 c=false:=by
      show cE c.toNat=false;refine eJ (fun e=>hc (Or.inr (Or.inl ?_))) (fun e=>hc (Or.inr (Or.inr ?_)))
      ·exact Fg.1 (by
       have:c.toNat=32:=by omega
       rw[this];rfl)
      ·exact Fg.1 (by
       have:c.toNat=9:=by omega
       rw[this];rfl)
     have hs:ag (c :: r)=0:=by
      unfold ag;rw[Gi,hb];rfl
     unfold cV;rw[hs,Ff];simp only;rw[if_neg (fun e=>hc (Or.inl e))]
    rw[nX (by simp) hp,dF (fun h=>hc h.2)];rfl
theorem Af (b:UInt8):df b=decide (iL b.toNat<16):=by
 unfold df dI az iL;have hb:=b.toNat_lt;repeat' split
 all_goals simp
 all_goals omega
theorem tK (l:List UInt8):ak l=if l=[] then (0,2) else if l.takeWhile df=[]\/(cy (l.dropWhile df)).isSome=false then (0,3) else am (l.takeWhile df) 16 2147483647:=by
 rw[lP,zN]
theorem rR (s:ByteArray) (hs:s.size<=900000) (w:World):
 Calls Tryz.prog 135 #[.string s] w fun e w'=>e=.returned (.tuple #[.int .i64 (ak s.data.toList).1,.int .i64 (ak s.data.toList).2])/\Below w.heap.size w w':=by
 have hsl:s.data.toList.length=s.size:=by simp
 obtain⟨V,hV⟩:∃V,V=ak s.data.toList:=⟨_,rfl⟩;rw[<-hV];rw[tK] at hV;cases hE:s.toList.isEmpty with
 | true=>
   have hz:s.data.toList=[]:=by rw[ah,Gy] at hE;exact hE
   rw[if_pos hz] at hV;subst hV;clear hsl hz;go_enter Tryz.func135,Tryz.ntmps135
   go_wp2_with fail
   go_ret2
   exact⟨rfl,EK _ _⟩
 | false=>
   have hz:s.data.toList≠[]:=by
    intro e;rw[ah,e] at hE;cases hE
   rw[if_neg hz] at hV;obtain⟨N,hN⟩:∃n,n=(s.data.toList.takeWhile df).length:=⟨_,rfl⟩;have hNl:N<=s.size:=by rw[hN,<-hsl];exact List.Sublist.length_le (List.takeWhile_sublist _)
   have htk:s.data.toList.takeWhile df=s.data.toList.take N:=by rw[hN,xj]
   have hdp:s.data.toList.dropWhile df=s.data.toList.drop N:=by rw[hN,wB]
   obtain⟨T,hT,hTz,hTs⟩:=gw s N hNl;obtain⟨R,hR,hRz,hRs⟩:=av s N hNl;rw[htk,hdp,<-hT,<-hR] at hV
   have hTd:iG T:=by
    intro k hk
    have hm:T.data.toList[k]'(by simpa using hk)∈s.data.toList.takeWhile df:=by
     rw[htk,<-hT];exact FT _
    have:=Gz.1 (List.all_takeWhile (p:=df) (l:=s.data.toList)) _ hm;rw[aA T k hk];unfold df dI at this;rw[EO] at this;exact this
   have HV:=lH hV;have HN:=lH hN;have HTD:=lH hTd;have hR9:R.size<=900000:=by omega
   clear hV hz htk hdp hT hR hRz hN hTd hsl;go_enter Tryz.func135,Tryz.ntmps135
   go_wp2_with fail
   go_loop [4] (fun i=>∃k:Nat,k<=s.size/\i=.int .i64 k/\∀j,j<k->decide (iL (bt s j)<16)=true) (fun i=>s.size - (intOf i).toNat)
   case atStart=>exact⟨0,by omega,rfl,fun j hj=>by omega⟩
   case round=>
    obtain⟨k,hk,rfl,hall⟩:=hrel;have HA:=lH hall;clear hall;obtain⟨b,hb⟩:∃b,b=bt s k:=⟨_,rfl⟩;obtain⟨r,hr⟩:∃r,r=iL b:=⟨_,rfl⟩;have hix:k<s.size->∀W:World,(Instr.index 9 (.string s) (.int .i64 k)).run Tryz.prog W=.ok (.int .u8 b) W:=fun h=>by rw[hb];exact aj s k h
    have HRV:=lH (dk b (by rw[hb];exact(bi s k).1) (by rw[hb];exact(bi s k).2));rw[<-hr] at HRV
    have h3:(k<s.size/\decide ((k:Int)<(s.size:Int))=true/\decide (r<16)=true)\/(N=k/\k<s.size/\decide ((k:Int)<(s.size:Int))=true/\decide (r<16)=false)\/(N=k/\decide ((k:Int)<(s.size:Int))=false/\decide (k<s.size)=false):=by
     by_cases hlt:k<s.size
     ·by_cases h16:r<16
      ·exact Or.inl ⟨hlt,dT (by omega),dT h16⟩
      ·refine Or.inr (Or.inl ⟨?_,hlt,dT (by omega),dF h16⟩)
       rw[HN.out];exact jg (P:=fun r=>decide (iL r<16)) Af hk HA.out (Or.inr ⟨hlt,by rw[<-hb,<-hr];exact dF h16⟩)
     ·refine Or.inr (Or.inr ⟨?_,dF (by omega),dF hlt⟩)
      rw[HN.out];exact jg (P:=fun r=>decide (iL r<16)) Af hk HA.out (Or.inl (by omega))
    have HH:Hid (decide (r<16)=true->decide (iL (bt s k)<16)=true):=fun h=>by rw[<-hb,<-hr];exact h
    clear hb hr;rcases h3 with ⟨hlt,hk1,h16⟩|⟨rfl,hlt,hk1,h16⟩|⟨rfl,hk1,hk2⟩
    ·replace hix:=hix hlt
     have HH:=lH (HH.out h16);go_wp2_with (go_at_call 130;refine(HRV.out _).mono ?_;rintro x1 w1 ⟨rfl,rfl⟩)
     go_round
     case rel=>exact⟨k+1,hlt,by go_num,fun j hj=>by
      rcases FM j k with h|h
      ·exact HA.out j h
      ·rw[show j=k by omega];exact HH.out⟩
     case measure=>simp[intOf];omega
    all_goals
     try replace hix:=hix hlt
     clear HH HA;have hN9:(N:Int)<=1000000:=by omega
     have HNB:Hid (N≠0->∀W [Ov w W],Calls Tryz.prog 103 #[.string T,.int .i64 16,.int .i64 2147483647] W fun e w'=>e=.returned (.tuple #[.int .i64 (am T.data.toList 16 2147483647).1,.int .i64 (am T.data.toList 16 2147483647).2])/\Below W.heap.size W w'):=fun h W _=>by
      have:=po T (by omega) HTD.out (by omega) 2147483647 (by decide) (by decide) _ _ rfl W;exact this.mono fun _ _ ⟨a,b⟩=>⟨a,b▸EK _ _⟩
     go_wp2_with (go_at_call 130;refine(HRV.out _).mono ?_;rintro x1 w1 ⟨rfl,rfl⟩)
     go_loopw [5] (fun u5 wr=>∃S:ByteArray,u5=.string S/\S.size<=900000/\(cy S.data.toList).isSome=(cy R.data.toList).isSome/\Ov w wr) (fun u5 _=>DD u5)
     case atStart=>exact⟨R,rfl,hR9,rfl,inferInstance⟩
     case round=>
      obtain⟨S,rfl,hS,hp,hov⟩:=hrel;have HP:=lH hp;have hSl:S.data.toList.length=S.size:=by simp
      clear hp
      have hcs:(S.toList.isEmpty=true/\S.data.toList=[])\/(S.toList.isEmpty=false/\S.data.toList≠[]):=by
       rw[ah];cases S.data.toList<;>simp
      have hN0:(N=0/\((N:Int)==0)=true)\/(N≠0/\0<(N:Int)/\((N:Int)==0)=false):=by
       rcases Nat.eq_zero_or_pos N with h|h
       ·exact Or.inl ⟨h,by rw[h];rfl⟩
       ·exact Or.inr ⟨by omega,by omega,by rw[EJ];omega⟩
      have HZ:Hid (N=0->V=(0,3)):=fun h=>by rw[HV.out,if_pos (Or.inl (EU (by rw[<-Lib.size_eq];omega)))]
      have HY:Hid (N≠0->S.data.toList=[]->V=am T.data.toList 16 2147483647):=fun h1 h2=>by
       have:=HP.out;rw[h2,jp] at this;rw[HV.out,if_neg];rintro (h|h)
       ·exact h1 (by rw[<-hTz,Lib.size_eq,h];rfl)
       ·rw[<-this] at h;cases h
      have HX:Hid (S.data.toList≠[]->cV S.data.toList=none->V=(0,3)):=fun h1 h2=>by
       have:=HP.out;rw[nX h1 h2] at this;rw[HV.out,if_pos (Or.inr (show (cy R.data.toList).isSome=false from this.symm))]
      have HPA:=lH (fun W [Ov w W]=>nJ S (by omega) W);rcases hcs with ⟨s1,s2⟩|⟨s1,s2⟩<;>rcases hN0 with ⟨rfl,n1⟩|⟨n0,n1,n2⟩
      case inr.inr=>
       cases hpf:cV S.data.toList with
       | none=>
         have HPB:Hid (∀W [Ov w W],Calls Tryz.prog 162 #[.string S] W fun e w'=>∃n v r:ByteArray,e=.returned (.tuple #[.agg #[.string n,.string v],.string r,.bool false])/\Below W.heap.size W w'):=fun W _=>(HPA.out W).mono fun e w' ⟨n,v,r,h1,_,h3⟩=>⟨n,v,r,by rw[h1,hpf];rfl,h3⟩;have HE:=lH (HX.out s2 hpf);clear s2 hpf hSl;go_wp2_with (go_at_call 162;refine(HPB.out _).mono ?_;rintro x3 w3 ⟨n3,v3,r3,rfl,hb⟩;obtain⟨_,_,_,_,_⟩:=fQ (w:=w) hb;clear hb)
         go_ret2
         rw[HE.out];exact⟨rfl,Ov.of⟩
       | some n=>
         have hn:=mV hpf;have HPB:Hid (∀W [Ov w W],Calls Tryz.prog 162 #[.string S] W fun e w'=>∃n' v r:ByteArray,e=.returned (.tuple #[.agg #[.string n',.string v],.string r,.bool true])/\r.data.toList=S.data.toList.drop n/\Below W.heap.size W w'):=fun W _=>(HPA.out W).mono fun e w' ⟨n',v,r,h1,h2,h3⟩=>⟨n',v,r,by rw[h1,hpf];rfl,h2 n hpf,h3⟩;have HG:=lH (tR s2 hpf);have HS:Hid (1<=n/\n<=S.size):=⟨Nat.le_of_succ_le hn.1,by omega⟩;clear s2 hpf hn hSl;go_wp2_with (go_at_call 162;refine(HPB.out _).mono ?_;rintro x3 w3 ⟨n3,v3,r3,rfl,hr3,hb⟩;obtain⟨_,_,_,_,_⟩:=fQ (w:=w) hb;have HR3:=lH hr3;clear hb hr3)
         have hz:r3.size=S.size - n:=by
          have:=FH List.length HR3.out;simpa using this
         go_roundw
         case rel=>
          refine⟨r3,rfl,by omega,?_,inferInstance⟩;have h:=HP.out;rw[HG.out] at h;rw[HR3.out,<-h];cases cy (S.data.toList.drop n)<;>rfl
         case measure=>
          have:=HS.out;show r3.size<S.size;omega
      all_goals
       first|(have HE:=lH (HZ.out rfl))|(have HE:=lH (HY.out n0 s2))
      go_wp2_with (go_at_call 103;refine(HNB.out n0 _).mono ?_;rintro x3 w3 ⟨rfl,hb⟩;obtain⟨_,_,_,_,_⟩:=fQ (w:=w) hb;clear hb)
      all_goals
       go_ret2
       rw[HE.out];exact⟨rfl,Ov.of⟩
end Go.Proofs.YthjbodpeckebiaaGreatDoor
-- RcB
namespace Go.Proofs.YthjbodpeckebiaaGreatDoor
open Go.RowKit
theorem kI (most:Int):∀(x:List UInt8) (i:Nat) (cur:List UInt8) (t:Bool),(cP most x i cur t).2.2.2=0->(cP most x i cur t).2.2.1=i+x.length
 | [],i,cur,t,_=>rfl
 | c :: r,i,cur,t,h=>by
   rw[cP] at h ⊢;repeat' split at h
   all_goals first
    | (cases h;done)
    | (rename_i h1 h2 h3;rw[if_neg h1,if_neg h2,if_pos h3,kI most r _ _ _ h,EQ];omega)
    | (rename_i h1 h2 h3 h4;rw[if_neg h1,if_neg h2,if_neg h3,if_pos h4];show (cP most r (i+1) [] false).2.2.1=_;rw[kI most r _ _ _ h,EQ];omega)
    | (rename_i h1 h2 h3 h4;rw[if_neg h1,if_neg h2,if_neg h3,if_neg h4,kI most r _ _ _ h,EQ];omega)
theorem kX (most:Int):∀(x:List UInt8) (i:Nat) (cur:List UInt8) (t:Bool),(cP most x i cur t).2.2.1<=i+x.length
 | [],i,cur,t=>nR _
 | c :: r,i,cur,t=>by
   have h1:=kX most r (i+1) cur true;have h2:=kX most r (i+1) [] false;have h3:=kX most r (i+1) (cur++[c]) false;rw[cP,EQ];repeat' split
   all_goals first
    | (show i<=_;omega)
    | omega
    | (show (cP most r (i+1) [] false).2.2.1<=_;omega)
theorem ap.at {w:World} {B:Nat} {v:Value} {l:List ByteArray} (h:ap w B v l):∃p c,v=.slice p l.length c/\∀i (hi:i<l.length),∃b,p=some ⟨b,0,none⟩/\B<=b/\w.cell? ⟨b,i,none⟩=some (.string l[i]):=by
 obtain⟨p,c,rfl⟩:=h.shape;refine⟨p,c,rfl,fun i hi=>?_⟩;obtain⟨g,cap,cur,hv,hB,_⟩:=h.block (by omega);cases hv
 exact⟨g,rfl,hB,h.cell i hi⟩
theorem pj (s:ByteArray) (at_:Nat) (hs:s.size<=65536) (ha:at_<=s.size) (m:Lm) (B:ByteArray) (pz:Option Addr) (nz cz:Nat) (w:World) (T:iI) (hT:T=fW m (s.data.toList.drop at_)):
 Calls Tryz.prog 136 #[.string s,.int .i64 (at_:Int),.agg #[.int .i64 m.head,.int .i64 m.fields,.int .i64 m.line,.int .i64 m.body,.int .i64 m.fold],.agg #[.string B,.slice pz nz cz,.slice none 0 0,.int .i64 0,.bool false,.int .i64 0]] w
  fun e w'=>∃vt,e=.returned (.agg #[.string B,.slice pz nz cz,vt,.int .i64 ((at_+T.used:Nat):Int),.bool T.over,.int .i64 T.err])/\ao w' w.heap.size vt T.tr/\Below w.heap.size w w':=by
 obtain⟨X,hX,hXz,hXs⟩:=av s at_ ha;have HR:=lH fun W=>j7 X m.head W (by omega);have hrs:=jx m.head X.data.toList 0 [] false;have hful:=kI m.head X.data.toList 0 [] false;have hule:=kX m.head X.data.toList 0 [] false;rw[<-hX] at hT;unfold fW at hT;generalize cP m.head X.data.toList 0 [] false=R at *;obtain⟨R1,WI,US,ER⟩:=R;have hXl:X.data.toList.length=X.size:=by simp
 rw[hXl] at hrs hful hule;have hsum:db R1+at_<=s.size:=by simp at hrs;omega
 have HFU:Hid (ER=0->at_+US=s.size):=fun h=>by have:=hful h;simp at this;omega
 have HUS:Hid (US<=s.size):=by show US<=_;simp at hule;omega
 have HT:=lH hT;have HSUM:=lH hsum;obtain⟨mh,mf,ml,mb,mo⟩:=m;clear hX hT hrs hful hXl hsum hule;go_enter Tryz.func136,Tryz.ntmps136
 go_upto_region 1 with fail
 refine AE 5 _ (by kernel_rfl) (by kernel_rfl) rfl rfl fun⟨_,_,_,_,_,_⟩=>?_;simp only[Ft,FG];repeat go_big_quiet_step (fail)
 refine FD ?_;rintro _ ⟨s0,rfl⟩ K hK;have h0:Rw s0.val (w.heap.size+1+1) #[.string ⟨#[]⟩,.slice none 0 0,.slice none 0 0,.int .i64 0,.bool false,.int .i64 0] 109:=inferInstance;have HS0:=lH h0.b.lt;clear h0;go_wp2_with (go_at_call 81;refine(HR.out _).mono ?_;rintro e0 w1 ⟨v1,rfl,ho,hb⟩;obtain⟨_,_,_,_,_⟩:=fQ (w:=w) hb;obtain⟨pv,cv,rfl,hc⟩:=ho.at;rw[F9];have HC:=lH hc;clear hb ho hc)
 rintro ⟨_,_,_,_,_,_⟩;simp only[Fz,Ff];repeat go_big_quiet_step (fail)
 refine FD ?_;rintro _ ⟨s1,rfl⟩;have o1:Ov w1 s1.val:=s1.ok;have o2:Ov w s1.val:=inferInstance;have r0:Rw s1.val w.heap.size #[.int .i64 mh,.int .i64 mf,.int .i64 ml,.int .i64 mb,.int .i64 mo] 24:=inferInstance;have r1:Rw s1.val (w.heap.size+1) #[.string B,.slice pz nz cz,.slice none 0 0,.int .i64 0,.bool false,.int .i64 0] 109:=inferInstance;have r2:Rw s1.val (w.heap.size+1+1) #[.string ⟨#[]⟩,.slice none 0 0,.slice none 0 0,.int .i64 0,.bool false,.int .i64 0] 109:=inferInstance;generalize s1.val=W1 at *;clear s1;go_wp2_with fail
 go_loopw [1,13,14] (fun u1 u13 u14 wr=>∃(k:Nat) (got:List ByteArray),k<=R1.length/\u14=.int .i64 k/\u1=.int .i64 ((at_+db (R1.take k):Nat):Int)/\ap wr W1.heap.size u13 got/\wO mo mf R1 0 []=wO mo mf (R1.drop k) (db (R1.take k)) got/\dX got+got.length<=db (R1.take k)/\Ov W1 wr) (fun _ _ u14 _=>R1.length - (intOf u14).toNat)
 case atStart=>exact⟨0,[],EN _,rfl,rfl,ap.empty W1,rfl,EN _,inferInstance⟩
 case round=>
  obtain⟨k,got,hk,rfl,rfl,hown,hpre,htg,hov⟩:=hrel;obtain⟨pg,cg,rfl⟩:=hown.shape;obtain⟨q1,q2⟩:=rel W1;have o3:Ov w wr:=Ov.trans W1;have HO:=lH hown;have HP:=lH hpre;have hAT:=fm R1 k;have hSM:=HSUM.out;have hRl:R1.length<=65536:=nT (oK R1) (by omega);obtain⟨AT,hATe⟩:∃n,n=db (R1.take k):=⟨_,rfl⟩;rw[<-hATe] at htg hAT HP ⊢;have HAT:=lH hATe;have hal:at_+AT<=65536:=by omega
  have hgl:got.length<=65536:=by omega
  have hgt:dX got<=65536:=by omega
  have HTG:=lH htg;clear hown hpre htg hATe;rcases FM k R1.length with hlt|hge
  ·obtain⟨b,rfl,hbB,h1⟩:=HC.out k (by rw[F9];exact hlt)
   clear hbB;obtain⟨x,hx⟩:∃x,x=R1[k]:=⟨_,rfl⟩;rw[List.getElem_map,<-hx] at h1;have hnx:db (R1.take (k+1))=AT+x.length+2:=by rw[E8 hlt,jB,<-HAT.out,<-hx]
   have hnl:at_+AT+x.length+2<=65536:=by have:=fm R1 (k+1);omega
   have hsc:wO mo mf R1 0 []=wO mo mf (x :: R1.drop (k+1)) AT got:=by rw[HP.out,Fa hlt,<-hx]
   rw[wO] at hsc;obtain⟨t,ht⟩:∃t,t=aw x:=⟨_,rfl⟩;have hts:t.size=x.length:=by rw[ht,dn]
   rw[<-ht] at h1 hsc;have h2:wr.cell? ⟨b,k,none⟩=some (.string t):=((hov.b.trans (EK _ _)).cell (p:=⟨b,k,none⟩) (FC (ET _ _ h1) o1.b.size)).trans ((o1.b.cell (p:=⟨b,k,none⟩) (ET _ _ h1)).trans h1);have HSC:=lH hsc;have HNX:=lH hnx;have HTS:=lH hts;have hlt':decide (k<R1.length)=true:=dT hlt;have hnt:(at_:Int)+(AT:Int)+(t.size:Int)+2<=65536:=by omega
   by_cases hz:x=[]
   ·subst hz
    have he:t.toList.isEmpty=true:=by rw[ht,ah];rfl
    have HT0:Hid (t.size=0):=hts;have HFA:=lH fun W [o:Ov wr W]=>lG mo (.slice pg got.length cg) got W (HO.out.strs.below o.b) (by omega) (by omega);obtain⟨Q,hQ⟩:∃Q,Q=bq mo got:=⟨_,rfl⟩;rw[<-hQ] at HFA HSC;obtain⟨L,E⟩:=Q
    have hcs:(decide (mf<(got.length:Int))=true/\T=⟨[],[],[],AT+2,false,4⟩)\/(decide (mf<(got.length:Int))=false/\E=0/\T=⟨[],[],L,AT+2,true,0⟩)\/(decide (mf<(got.length:Int))=false/\(E==0)=false/\T=⟨[],[],[],AT+2,false,E⟩):=by
     rw[HT.out,HSC.out,if_neg (by simp)];by_cases c1:mf<(got.length:Int)
     ·exact Or.inl ⟨dT c1,by simp only[if_pos c1];rfl⟩
     ·right
      by_cases c2:E=0
      ·subst c2
       exact Or.inl ⟨dF c1,rfl,by simp only[if_neg c1];rfl⟩
      ·have:(E==0)=false:=by rw[EJ];exact c2
       exact Or.inr ⟨dF c1,this,by simp only[if_neg c1,ne_eq,c2,not_false_eq_true,if_true,this]⟩
    have HZ1:=lH hov.b.size
    have HZ0:Hid (w.heap.size+3<=W1.heap.size):=by
     have:=r2.b.lt;show _<=_;omega
    clear ht hts HTS HNX hnx hsc hnl h1 hx hQ HSC HT;rcases hcs with ⟨d1,rfl⟩|⟨d1,rfl,rfl⟩|⟨d1,d2,rfl⟩
    all_goals
     go_wp2_with (go_at_call 100;refine(HFA.out _).mono ?_;rintro x3 w3 ⟨v3,rfl,hf,hb⟩;obtain⟨pf,cf,rfl⟩:=aC hf;have HF:=lH hf;have HZ:=lH hb.size;obtain⟨_,_,_,_,_⟩:=fQ (w:=W1) hb;have:=Ov.trans (w:=w) (w':=w3) W1;clear hb hf)
     have h3:w.heap.size+1+1<wr.heap.size:=by have:=HZ0.out;have:=HZ1.out;omega
     have h4:=HT0.out
    ·exact dd Tryz.results136 rfl Tryz.underlying109 rfl (by kernel_rfl) rfl ⟨.slice none 0 0,by simp;omega,Fv _ _ _ _,Ov.of⟩
    ·refine dd Tryz.results136 rfl Tryz.underlying109 rfl (by kernel_rfl) rfl ⟨.slice pf L.length cf,by simp;omega,?_,Ov.of⟩
     refine ao.lower (B:=wr.heap.size) ?_ (by omega);unfold ao;repeat (refine aD ?_ (by omega) _ _)
     exact HF.out
    ·exact dd Tryz.results136 rfl Tryz.underlying109 rfl (by kernel_rfl) rfl ⟨.slice none 0 0,by simp;omega,Fv _ _ _ _,Ov.of⟩
   ·have he:t.toList.isEmpty=false:=by
     rw[ah,ht];cases x with
     | nil=>exact absurd rfl hz
     | cons y r=>rfl
    have HN:Hid (wO mo mf R1 0 []=wO mo mf (R1.drop (k+1)) (AT+x.length+2) (got++[t])):=by show _=_;rw[HSC.out,if_pos hz];rfl
    have HZ:=lH hov.b.size;have hgm:got.length<=1000000:=by omega
    clear hz ht hts hnl hnx hsc h1 hx;go_wp2_with (at_builtin;refine aF rfl _ _ rfl rfl HO.out t rfl hgm HZ.out ?_;intro p4 c4 w4 ho4 _ hb4;have HO4:=lH ho4;have HB4:=lH hb4;clear ho4 hb4)
    go_roundw
    case rel=>
     have h5:=HNX.out;have h6:=HTS.out;refine⟨k+1,got++[t],hlt,by go_num,by rw[h5,<-h6];(first|rfl|(congr 1;push_cast;omega)),HO4.out,by rw[h5];exact HN.out,?_,Ov.low HB4.out⟩;rw[h5,<-h6];exact xm HTG.out
    case measure=>first|exact rS hlt|(simp[intOf];omega)
  ·have hlt':decide (k<R1.length)=false:=dF (by omega)
   have hke:k=R1.length:=by omega
   have HTE:Hid (T=⟨[],[],[],US,false,ER⟩):=by
    show _=_;rw[HT.out,HP.out,E6 hge];rfl
   have HAL:Hid (AT=db R1):=by
    show _=_;rw[HAT.out,hke,F8]
   have HKE:=lH hke;clear hke hge
   have HZ0:Hid (w.heap.size+3<=W1.heap.size):=by
    have:=r2.b.lt;show _<=_;omega
   have hER:(ER=0/\at_+US=s.size)\/(ER==0)=false:=by
    by_cases h:ER=0
    ·exact Or.inl ⟨h,HFU.out h⟩
    ·exact Or.inr (by rw[EJ];exact h)
   have hAl:=HAL.out;have hsb:=HSUM.out;clear HAT HP HTG;rcases hER with ⟨rfl,hus⟩|hER
   ·have HU:=lH hus
    clear hus;go_wp2_with fail
    exact dd Tryz.results136 rfl Tryz.underlying109 rfl (by kernel_rfl) rfl ⟨.slice none 0 0,by rw[HTE.out];have:=HU.out;simp;omega,by rw[HTE.out];exact Fv _ _ _ _,Ov.of⟩
   ·go_wp2_with fail
    go_loop [17,18] (fun u17 u18=>∃j:Nat,j<=R1.length/\u18=.int .i64 j/\u17=.int .i64 ((db (R1.take j):Nat):Int)) (fun _ u18=>R1.length - (intOf u18).toNat)
    case atStart=>exact⟨0,EN _,rfl,rfl⟩
    case round=>
     obtain⟨j,hj,rfl,rfl⟩:=hrel;have hAj:=fm R1 j;obtain⟨AJ,hAJ⟩:∃n,n=db (R1.take j):=⟨_,rfl⟩;rw[<-hAJ] at hAj ⊢;have HAJ:=lH hAJ;have haj:AJ<=65536:=by omega
     clear hAJ;rcases FM j R1.length with hlt|hge
     ·obtain⟨b,rfl,hbB,h1⟩:=HC.out j (by rw[F9];exact hlt)
      obtain⟨x,hx⟩:∃x,x=R1[j]:=⟨_,rfl⟩;rw[List.getElem_map,<-hx] at h1;obtain⟨t,ht⟩:∃t,t=aw x:=⟨_,rfl⟩;have hts:t.size=x.length:=by rw[ht,dn]
      rw[<-ht] at h1;have hbl:=ET _ _ h1
      have h2:(wr.setCell ⟨w.heap.size+1,3,none⟩ (.int .i64 (s.size:Int))).cell? ⟨b,j,none⟩=some (.string t):=by
       rw[World.cell?_setCell_other _ _ _ _ (fun e=>by injection e with e1 _;have:=HS0.out;omega)];exact(hov.b.cell (p:=⟨b,j,none⟩) (FC hbl o1.b.size)).trans ((o1.b.cell (p:=⟨b,j,none⟩) hbl).trans h1)
      have hnx:db (R1.take (j+1))=AJ+x.length+2:=by rw[E8 hlt,jB,<-HAJ.out,<-hx]
      have hnt:(AJ:Int)+(t.size:Int)+2<=65536:=by have:=fm R1 (j+1);omega
      have hlt2:decide (j<R1.length)=true:=dT hlt;have HNX:Hid (db (R1.take (j+1))=AJ+t.size+2):=by rw[hts];exact hnx
      clear hx ht hts hnx h1 hbB hbl;go_wp2_with fail
      go_round
      case rel=>exact⟨j+1,hlt,by go_num,by rw[HNX.out];(first|rfl|(congr 1;push_cast;omega))⟩
      case measure=>first|exact rS hlt|(simp[intOf];omega)
     ·have hlt2:decide (j<R1.length)=false:=dF (by omega)
      have HJ:Hid (AJ=AT):=by
       have:j=R1.length:=by omega
       show _=_;rw[HAJ.out,HAL.out,this,F8]
      clear HAJ hge;go_wp2_with fail
      have e1:=HJ.out;have e2:=HAL.out;have e3:=HUS.out;refine dd Tryz.results136 rfl Tryz.underlying109 rfl (by kernel_rfl) rfl ⟨.slice none 0 0,?_,by rw[HTE.out];exact Fv _ _ _ _,Ov.of⟩;rw[HTE.out,FY _ ⟨by omega,by omega⟩];simp;omega
end Go.Proofs.YthjbodpeckebiaaGreatDoor
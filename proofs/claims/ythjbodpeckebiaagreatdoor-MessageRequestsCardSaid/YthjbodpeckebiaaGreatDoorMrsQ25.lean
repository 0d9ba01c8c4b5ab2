/- Texts packed for one claim, 25 of 52: Low HostW. -/
import Derived.Test.YthjbodpeckebiaaGreatDoorMrsQ4
import Derived.Test.YthjbodpeckebiaaGreatDoorMrsQ24
import Derived.Test.YthjbodpeckebiaaGreatDoorMrsQ18
import Derived.Laws.IdiomStrings
import Derived.Lib.SlBytesRow
import Derived.Lib.BufferRead
import Derived.Test.YthjbodpeckebiaaGreatDoorMrsShelf
set_option maxRecDepth 100000
set_option maxHeartbeats 16000000
set_option linter.unusedSimpArgs false
set_option linter.unusedVariables false
-- Low
namespace Go.Proofs.YthjbodpeckebiaaGreatDoor
open Go.RowKit
theorem nC (s:ByteArray) (k:Nat) (h:k<s.size):bt (br s) k=dw (bt s k):=by
 have h2:k<(br s).size:=by rw[cX];exact h
 rw[aA _ k h2,aA s k h,<-sE];congr 2
 show (km s.data.toList).toArray[k]=_;simp[km];rfl
theorem EB {a b:ByteArray} (hn:a.size=b.size) (h:∀j,j<a.size->bt a j=bt b j):a=b:=by
 apply bj;apply List.ext_getElem
 ·simpa using hn
 ·intro j h1 h2
  have h1':j<a.size:=by simpa using h1
  have h2':j<b.size:=by simpa using h2
  have:=h j h1';rw[aA a j h1',aA b j h2'] at this
  exact Fg.1 (by
   have e1:a.data.toList[j]=a[j]:=rfl;have e2:b.data.toList[j]=b[j]:=rfl
   rw[e1,e2];omega)
theorem BH {a b:ByteArray} (hn:a.size=b.size) (h:∀j,j<a.size->dw (bt a j)=dw (bt b j)):br a=br b:=by
 refine EB (by rw[cX,cX,hn]) (fun j hj=>?_);rw[cX] at hj;rw[nC a j hj,nC b j (by omega),h j hj]
theorem qA (c:Int) (h0:0<=c) (h1:c<=255) (w:World):Calls Tryz.prog 215 #[.int .u8 c] w fun e w'=>e=.returned (.int .u8 (dw c))/\w=w':=by
 rcases (by omega:c<65\/(65<=c/\c<=90)\/90<c) with h|⟨h,h'⟩|h
 ·have HV:Hid (dw c=c):=by show dw c=c;unfold dw;rw[if_neg (by omega)]
  go_enter Tryz.func215,Tryz.ntmps215
  go_wp2_with fail
  go_ret;rw[HV.out];exact⟨rfl,rfl⟩
 ·have HV:Hid (dw c=c+97 - 65):=by show dw c=c+97 - 65;unfold dw;rw[if_pos (by omega)];omega
  go_enter Tryz.func215,Tryz.ntmps215
  go_wp2_with fail
  go_ret;rw[HV.out];exact⟨rfl,rfl⟩
 ·have HV:Hid (dw c=c):=by show dw c=c;unfold dw;rw[if_neg (by omega)]
  go_enter Tryz.func215,Tryz.ntmps215
  go_wp2_with fail
  go_ret;rw[HV.out];exact⟨rfl,rfl⟩
theorem qa (w:World) (m n:Nat):(w.drewN m).drewN n=w.drewN (m+n):=by
 unfold World.drewN;simp[Gg]
theorem oa (c:Int) (h0:0<=c) (h1:c<=255) (w:World) (m:Nat):Calls Tryz.prog 215 #[.int .u8 c] (w.drewN m) fun e w'=>e=.returned (.int .u8 (dw c))/\w'=w.drewN m:=(qA c h0 h1 _).mono fun _ _ h=>⟨h.1,h.2.symm⟩
theorem As (a b:ByteArray) (ha:a.size<=1000000) (hb:b.size<=1000000) (w:World):Calls Tryz.prog 178 #[.string a,.string b] w fun e w'=>e=.returned (.bool (decide (br a=br b)))/\∃m,w'=w.drewN m:=by
 by_cases hn:a.size=b.size
 ·obtain⟨n,hna⟩:∃n,n=a.size:=⟨_,rfl⟩
  have HNA:=lH hna;have HNB:Hid (n=b.size):=by show n=b.size;omega
  have ls1:a.size=n:=hna.symm;have ls2:b.size=n:=by omega
  have e0:((n:Int) != (n:Int))=false:=by simp
  have hnn:n<=1000000:=by omega
  clear hn hna ha hb;go_enter Tryz.func178,Tryz.ntmps178
  go_wp2_with fail
  go_loopw [13] (fun i wr=>∃k m:Nat,k<=n/\i=.int .i64 k/\wr=w.drewN m/\∀j,j<k->dw (bt a j)=dw (bt b j)) (fun i _=>n - (intOf i).toNat)
  case atStart=>exact⟨0,0,by omega,rfl,rfl,fun j hj=>by omega⟩
  case round=>
   obtain⟨k,m,hk,rfl,hwr,hall⟩:=hrel;have HA:=lH hall;have HWR:=lH hwr;clear hall hwr;by_cases hlt:k<n
   ·have hk1:decide ((k:Int)<(n:Int))=true:=dT (by omega)
    have hix:=aj a k (by omega);have hiy:=aj b k (by omega);have hxr:=bi a k;have hyr:=bi b k;obtain⟨x,hx⟩:∃x,x=bt a k:=⟨_,rfl⟩;obtain⟨y,hy⟩:∃y,y=bt b k:=⟨_,rfl⟩;rw[<-hx] at hix hxr;rw[<-hy] at hiy hyr;have HX:=lH hx;have HY:=lH hy;have hx0:=hxr.1;have hx1:=hxr.2;have hy0:=hyr.1;have hy1:=hyr.2;clear hx hy hxr hyr;by_cases hpq:dw x=dw y
    ·have HPQ:=lH hpq
     have p1:(dw x != dw y)=false:=by rw[hpq];simp
     have p2:(dw x==dw y)=true:=by rw[hpq];simp
     clear hpq;go_wp2_with fail
     go_quiet ((go_at_call 215;refine Calls.quiet_of_same (oa _ ?_ ?_ _ _)<;>assumption))
     go_wp2_with fail
     go_roundw
     case rel=>
      refine⟨k+1,_,hlt,by go_num,by rw[HWR.out,qa],fun j hj=>?_⟩;rcases (by omega:j=k\/j<k) with rfl|h
      ·rw[<-HX.out,<-HY.out];exact HPQ.out
      ·exact HA.out j h
     case measure=>simp[intOf];omega
    ·have HE:Hid (decide (br a=br b)=false):=dF (fun e=>hpq (by rw[HX.out,HY.out,<-nC a k (by omega),<-nC b k (by omega),e]))
     have p1:(dw x != dw y)=true:=by rw[FP];exact hpq
     have p2:(dw x==dw y)=false:=by rw[EJ];exact hpq
     clear hpq;go_wp2_with fail
     go_quiet ((go_at_call 215;refine Calls.quiet_of_same (oa _ ?_ ?_ _ _)<;>assumption))
     go_wp2_with fail
     go_ret;rw[HE.out];exact⟨rfl,_,by rw[HWR.out,qa]⟩
   ·have hkn:k=n:=by omega
    have HE:Hid (decide (br a=br b)=true):=dT (BH (by omega) (fun j hj=>HA.out j (by omega)));have hk1:decide ((k:Int)<(n:Int))=false:=dF (by omega);clear hkn;go_wp2_with fail
    go_ret;rw[HE.out];exact⟨rfl,m,HWR.out⟩
 ·have HE:Hid (decide (br a=br b)=false):=dF (fun e=>hn (by rw[<-cX a,e,cX]))
  have e0:((a.size:Int) != (b.size:Int))=true:=by simp;omega
  go_enter Tryz.func178,Tryz.ntmps178
  go_wp2_with fail
  go_ret;rw[HE.out];exact⟨rfl,0,rfl⟩
def iB (w:World) (g m:Nat) (C:Array Value):Prop:=w.heap[g]? = some (.cells C 5 (m,m+1))/\C.size=m
theorem iB.cell {w:World} {g m:Nat} {C:Array Value} (h:iB w g m C) (k:Nat):w.cell? ⟨g,k,none⟩=C[k]?:=by
 simp[World.cell?,h.1]
theorem iB.froz {w:World} {g m:Nat} {C:Array Value} (h:iB w g m C) (k:Nat) (hk:k<m):w.frozen? ⟨g,k,none⟩=false:=by
 simp[World.frozen?,h.1];omega
theorem iB.set {w:World} {g m:Nat} {C:Array Value} (h:iB w g m C) (k:Nat) (u:Value):iB (w.setCell ⟨g,k,none⟩ u) g m (C.setIfInBounds k u):=by
 refine⟨?_,by simpa using h.2⟩;simp[World.setCell,Array.getElem?_modify,h.1]
theorem sP (s:ByteArray) (cap j:Nat) (h:j<s.size):(bytesRow s cap)[j]? = some (.int .u8 (bt s j)):=by
 unfold bytesRow;have h2:j<s.data.size:=h;rw[Array.getElem?_append_left (by simpa using h2),Array.getElem?_map,Array.getElem?_eq_getElem h2,aA s j h];rfl
theorem nr (s:ByteArray) (hs:s.size<=1000000) (w:World):Calls Tryz.prog 190 #[.string s] w fun e w'=>e=.returned (.string (br s))/\Below w.heap.size w w':=by
 obtain⟨cp,hcp⟩:∃cp,cp=grownCap w s.size 0 5:=⟨_,rfl⟩;obtain⟨C0,hC0⟩:∃C,C=bytesRow s cp:=⟨_,rfl⟩;obtain⟨m,hm⟩:∃m,m=C0.size:=⟨_,rfl⟩
 have kc:(convert 9 134 (.string s)).run Tryz.prog w=.ok (.slice (some ⟨w.heap.size,0,none⟩) s.size cp) (w.drew.alloc (.cells C0 5 (m,m+1))):=by
  rw[run_bytes_of_string (P:=Tryz.prog) w 9 134 5 s Tryz.underlying9 Tryz.underlying134 Tryz.underlying5,<-hcp,<-hC0,<-hm]
 have HC0:Hid (∀j,j<s.size->C0[j]? = some (.int .u8 (bt s j))):=by
  show ∀j,_->_;intro j hj;rw[hC0];exact sP s cp j hj
 have HMS:Hid (s.size<=m):=by
  show _<=_;rw[hm,hC0];unfold bytesRow;rw[Array.size_append,Array.size_map];exact Fj _ _
 have HM0:Hid (iB (w.drew.alloc (.cells C0 5 (m,m+1))) w.heap.size m C0):=⟨heap_alloc_new w.drew _,hm.symm⟩;have HB0:Hid (Below w.heap.size w (w.drew.alloc (.cells C0 5 (m,m+1)))):=((EK _ w).drew).alloc (nR _) _;have hsi:(s.size:Int)<=1000000:=by omega
 clear hcp hC0 hm;go_enter Tryz.func190,Tryz.ntmps190
 go_wp2_with fail
 go_loopw [10] (fun i wr=>∃(k:Nat) (C:Array Value),k<=s.size/\i=.int .i64 k/\iB wr w.heap.size m C/\(∀j,j<s.size->C[j]? = some (.int .u8 (if j<k then dw (bt s j) else bt s j)))/\Below w.heap.size w wr) (fun i _=>s.size - (intOf i).toNat)
 case atStart=>exact⟨0,C0,EN _,rfl,HM0.out,fun j hj=>by rw[if_neg (by omega)];exact HC0.out j hj,HB0.out⟩
 case round=>
  obtain⟨k,C,hk,rfl,hM,hC,hbel⟩:=hrel;have HM:=lH hM;have HC:=lH hC;have HB:=lH hbel;clear kc hM hC hbel;by_cases hlt:k<s.size
  ·have hk1:decide ((k:Int)<(s.size:Int))=true:=dT (by omega)
   have c0:=HM.out.cell k;rw[HC.out k hlt,if_neg (by omega)] at c0;have f0:=HM.out.froz k (FC hlt HMS.out);have hr:=bi s k;obtain⟨x,hx⟩:∃x,x=bt s k:=⟨_,rfl⟩;rw[<-hx] at c0 hr;have hx0:=hr.1;have hx1:=hr.2;have HX:=lH hx;clear hx hr;go_wp2_with (go_at_call 215;refine(qA x hx0 hx1 _).mono ?_;rintro e' w' ⟨rfl,rfl⟩)
   go_roundw
   case rel=>
    refine⟨k+1,_,hlt,by go_num,HM.out.set k (.int .u8 (dw x)),fun j hj=>?_,HB.out.setCell (p:=⟨w.heap.size,k,none⟩) (nR _) _⟩;rw[Array.getElem?_setIfInBounds];by_cases e:k=j
    ·subst e
     have hcs:k<C.size:=by rw[HM.out.2];exact FC hlt HMS.out
     rw[if_pos rfl,if_pos hcs,if_pos (GO _),HX.out]
    ·rw[if_neg e,HC.out j hj]
     by_cases h:j<k
     ·rw[if_pos h,if_pos (by omega)]
     ·rw[if_neg h,if_neg (by omega)]
   case measure=>simp[intOf];omega
  ·have hk1:decide ((k:Int)<(s.size:Int))=false:=dF (by omega)
   have hkn:k=s.size:=by omega
   have kc2:(convert 134 9 (.slice (some ⟨w.heap.size,0,none⟩) s.size cp)).run Tryz.prog wr=.ok (.string (br s)) wr:=by
    have h:=Lib.run_convert_whole (P:=Tryz.prog) wr 134 5 9 Tryz.underlying134 Tryz.underlying5 Tryz.underlying9 w.heap.size 0 (br s) (fun j hj=>?_) cp
    ·rw[cX] at h
     exact h
    ·have hj':j<s.size:=by rw[cX] at hj;exact hj
     rw[FQ,HM.out.cell j,HC.out j hj',if_pos (by omega),<-nC s j hj',aA _ j hj]
   clear hkn;go_wp2_with fail
   go_ret;exact⟨rfl,HB.out⟩
theorem tB {w:World} {B:Nat} {v:Value} {l:List UInt8} (h:eC w B v l):(convert 134 9 v).run Tryz.prog w=.ok (.string ⟨l.toArray⟩) w:=by
 obtain⟨_,h⟩:=h;rcases h with ⟨rfl,h0⟩|⟨g,cap,cur,rfl,_,hg,h1,h2,h3,h4⟩
 ·have:l=[]:=EU h0
  subst this;exact Lib.run_convert_nil_bytes (P:=Tryz.prog) w 134 9 5 0 Tryz.underlying134 Tryz.underlying5 Tryz.underlying9
 ·refine run_convert_bytes_back (P:=Tryz.prog) w 134 9 5 ⟨g,0,none⟩ cap l Tryz.underlying134 Tryz.underlying5 Tryz.underlying9 (fun j hj=>?_)
  rw[gU,FQ];have a:(l.map fun b=>Value.int .u8 b.toNat)[j]? = some (.int .u8 (l[j].toNat:Int)):=by rw[Gk,EM hj];rfl
  rw[<-h4,Gx,if_pos (by omega)] at a;simp only[World.cell?,hg];simp only[Gq] at a;exact a
theorem eC.empty (w:World):eC (w.alloc (.cells #[] 5)) w.heap.size (.slice (some ⟨w.heap.size,0,none⟩) 0 0) []:=World.ownsRow_lit w #[] 0 (nR _) (by decide) rfl
theorem im {w:World} {B:Nat} {v:Value} {l:List UInt8} (h:eC w B v l):∀k,v.ownBlock=some k->B<=k:=by
 intro k hk;obtain⟨_,h2⟩:=h;rcases h2 with ⟨rfl,_⟩|⟨g',cap,cur,rfl,hB,hg,_⟩
 ·cases hk
 ·have:g'=k:=by injection hk
  subst this;exact hB
theorem yx (s:ByteArray) (k:Nat) (h:k<s.size):km (s.data.toList.take (k+1))=km (s.data.toList.take k)++[zT (s[k]'h)]:=by
 unfold km;rw[eI s k h,Fo];rfl
theorem dJ (s:ByteArray) (hs:s.size<=1000000) (w:World):Calls Tryz.prog 128 #[.string s] w fun e w'=>e=.returned (.string (br s))/\Below w.heap.size w w':=by
 have hsi:(s.size:Int)<=1000000:=by omega
 have HO0:=lH (eC.empty w);have HB0:=lH ((EK w.heap.size w).alloc (nR _) (.cells #[] 5));go_enter Tryz.func128,Tryz.ntmps128
 go_wp2_with fail
 go_loopw [3,4] (fun u3 u4 wr=>∃k:Nat,k<=s.size/\u4=.int .i64 k/\eC wr w.heap.size u3 (km (s.data.toList.take k))/\Below w.heap.size w wr) (fun _ u4 _=>s.size - (intOf u4).toNat)
 case atStart=>exact⟨0,EN _,rfl,HO0.out,HB0.out⟩
 case round=>
  obtain⟨k,hk,rfl,ho,hbel⟩:=hrel;have HO:=lH ho;have HB:=lH hbel;clear ho hbel;by_cases hlt:k<s.size
  ·have hk1:decide ((k:Int)<(s.size:Int))=true:=dT (by omega)
   have hix:=aj s k hlt;have hr:=bi s k;obtain⟨x,hx⟩:∃x,x=bt s k:=⟨_,rfl⟩;rw[<-hx] at hix hr;have hx0:=hr.1;have hx1:=hr.2;obtain⟨Y,hY⟩:∃Y,Y=zT (s[k]'hlt):=⟨_,rfl⟩;have hYx:(Y.toNat:Int)=dw x:=by rw[hY,sE,hx,aA s k hlt]
   have HN:Hid (km (s.data.toList.take (k+1))=km (s.data.toList.take k)++[Y]):=by show _=_;rw[yx s k hlt,hY]
   have hln:(km (s.data.toList.take k)).length=k:=by unfold km;simp;omega
   have HLN:=lH hln;have HLB:Hid ((km (s.data.toList.take k)).length<=1000000):=by show _<=_;omega
   have HBZ:=lH HB.out.size;have HBK:=lH (im HO.out);clear hx hr hY hln;rcases (by omega:x<65\/(65<=x/\x<=90)\/90<x) with h|⟨h,h'⟩|h
   ·have HY:Hid (x=(Y.toNat:Int)):=by show x=_;rw[hYx];unfold dw;rw[if_neg (by omega)]
    clear hYx;go_wp2_with (at_builtin;refine bU rfl _ _ rfl rfl HO.out Y _ HY.out rfl HLB.out HBZ.out ?_;intro g1 c1 w1 ho1 ht1 _;have HO1:=lH ho1;have HT1:=lH ht1;clear ho1 ht1)
    go_roundw
    case rel=>exact⟨k+1,hlt,by go_num,by rw[HN.out];exact HO1.out,HB.out.trans (HT1.out.below (fun j _ hj=>HBK.out j hj) HBZ.out)⟩
    case measure=>simp[intOf];omega
   ·have HY:Hid (x+32=(Y.toNat:Int)):=by show x+32=_;rw[hYx];unfold dw;rw[if_pos (by omega)]
    clear hYx;go_wp2_with (at_builtin;refine bU rfl _ _ rfl rfl HO.out Y _ HY.out rfl HLB.out HBZ.out ?_;intro g1 c1 w1 ho1 ht1 _;have HO1:=lH ho1;have HT1:=lH ht1;clear ho1 ht1)
    go_roundw
    case rel=>exact⟨k+1,hlt,by go_num,by rw[HN.out];exact HO1.out,HB.out.trans (HT1.out.below (fun j _ hj=>HBK.out j hj) HBZ.out)⟩
    case measure=>simp[intOf];omega
   ·have HY:Hid (x=(Y.toNat:Int)):=by show x=_;rw[hYx];unfold dw;rw[if_neg (by omega)]
    clear hYx;go_wp2_with (at_builtin;refine bU rfl _ _ rfl rfl HO.out Y _ HY.out rfl HLB.out HBZ.out ?_;intro g1 c1 w1 ho1 ht1 _;have HO1:=lH ho1;have HT1:=lH ht1;clear ho1 ht1)
    go_roundw
    case rel=>exact⟨k+1,hlt,by go_num,by rw[HN.out];exact HO1.out,HB.out.trans (HT1.out.below (fun j _ hj=>HBK.out j hj) HBZ.out)⟩
    case measure=>simp[intOf];omega
  ·have hk1:decide ((k:Int)<(s.size:Int))=false:=dF (by omega)
   have hkn:k=s.size:=by omega
   have kc2:=tB HO.out;have e:(⟨(km (s.data.toList.take k)).toArray⟩:ByteArray)=br s:=by rw[hkn,bV];rfl
   rw[e] at kc2;clear hkn e;go_wp2_with fail
   go_ret;exact⟨rfl,HB.out⟩
end Go.Proofs.YthjbodpeckebiaaGreatDoor
-- HostW
namespace Go.Proofs.YthjbodpeckebiaaGreatDoor
open Go.RowKit
theorem wC (r:Int) (h0:0<=r) (h1:r<=1114111) (w:World):Calls Tryz.prog 180 #[.int .i32 r] w fun e w'=>e=.returned (.bool (cL r))/\w=w':=by
 rcases (by omega:r<48\/(48<=r/\r<=57)\/(57<r/\r<65)\/(65<=r/\r<=70)\/(70<r/\r<97)\/(97<=r/\r<=102)\/102<r) with h|⟨h,h'⟩|⟨h,h'⟩|⟨h,h'⟩|⟨h,h'⟩|⟨h,h'⟩|h
 ·have HV:Hid (cL r=false):=by show cL r=false;unfold cL;exact dF (by omega)
  have dl0:decide (48<=r)=false:=dF (by omega);have dl1:decide (65<=r)=false:=dF (by omega);have dl2:decide (97<=r)=false:=dF (by omega);have du0:decide (r<=57)=true:=dT (by omega);have du1:decide (r<=70)=true:=dT (by omega);have du2:decide (r<=102)=true:=dT (by omega);go_enter Tryz.func180,Tryz.ntmps180
  go_wp2_with fail
  go_ret;rw[HV.out];exact⟨rfl,rfl⟩
 ·have HV:Hid (cL r=true):=by show cL r=true;unfold cL;exact dT (by omega)
  have dl0:decide (48<=r)=true:=dT (by omega);have dl1:decide (65<=r)=false:=dF (by omega);have dl2:decide (97<=r)=false:=dF (by omega);have du0:decide (r<=57)=true:=dT (by omega);have du1:decide (r<=70)=true:=dT (by omega);have du2:decide (r<=102)=true:=dT (by omega);go_enter Tryz.func180,Tryz.ntmps180
  go_wp2_with fail
  go_ret;rw[HV.out];exact⟨rfl,rfl⟩
 ·have HV:Hid (cL r=false):=by show cL r=false;unfold cL;exact dF (by omega)
  have dl0:decide (48<=r)=true:=dT (by omega);have dl1:decide (65<=r)=false:=dF (by omega);have dl2:decide (97<=r)=false:=dF (by omega);have du0:decide (r<=57)=false:=dF (by omega);have du1:decide (r<=70)=true:=dT (by omega);have du2:decide (r<=102)=true:=dT (by omega);go_enter Tryz.func180,Tryz.ntmps180
  go_wp2_with fail
  go_ret;rw[HV.out];exact⟨rfl,rfl⟩
 ·have HV:Hid (cL r=true):=by show cL r=true;unfold cL;exact dT (by omega)
  have dl0:decide (48<=r)=true:=dT (by omega);have dl1:decide (65<=r)=true:=dT (by omega);have dl2:decide (97<=r)=false:=dF (by omega);have du0:decide (r<=57)=false:=dF (by omega);have du1:decide (r<=70)=true:=dT (by omega);have du2:decide (r<=102)=true:=dT (by omega);go_enter Tryz.func180,Tryz.ntmps180
  go_wp2_with fail
  go_ret;rw[HV.out];exact⟨rfl,rfl⟩
 ·have HV:Hid (cL r=false):=by show cL r=false;unfold cL;exact dF (by omega)
  have dl0:decide (48<=r)=true:=dT (by omega);have dl1:decide (65<=r)=true:=dT (by omega);have dl2:decide (97<=r)=false:=dF (by omega);have du0:decide (r<=57)=false:=dF (by omega);have du1:decide (r<=70)=false:=dF (by omega);have du2:decide (r<=102)=true:=dT (by omega);go_enter Tryz.func180,Tryz.ntmps180
  go_wp2_with fail
  go_ret;rw[HV.out];exact⟨rfl,rfl⟩
 ·have HV:Hid (cL r=true):=by show cL r=true;unfold cL;exact dT (by omega)
  have dl0:decide (48<=r)=true:=dT (by omega);have dl1:decide (65<=r)=true:=dT (by omega);have dl2:decide (97<=r)=true:=dT (by omega);have du0:decide (r<=57)=false:=dF (by omega);have du1:decide (r<=70)=false:=dF (by omega);have du2:decide (r<=102)=true:=dT (by omega);go_enter Tryz.func180,Tryz.ntmps180
  go_wp2_with fail
  go_ret;rw[HV.out];exact⟨rfl,rfl⟩
 ·have HV:Hid (cL r=false):=by show cL r=false;unfold cL;exact dF (by omega)
  have dl0:decide (48<=r)=true:=dT (by omega);have dl1:decide (65<=r)=true:=dT (by omega);have dl2:decide (97<=r)=true:=dT (by omega);have du0:decide (r<=57)=false:=dF (by omega);have du1:decide (r<=70)=false:=dF (by omega);have du2:decide (r<=102)=false:=dF (by omega);go_enter Tryz.func180,Tryz.ntmps180
  go_wp2_with fail
  go_ret;rw[HV.out];exact⟨rfl,rfl⟩
theorem BO:∀n:Fin 128,decide (0<=Lib.indexByte [45,46,95,126,33,36,38,39,40,41,42,43,44,59,61] (UInt8.ofNat n.val))=eX (n.val:Int):=by decide +kernel
theorem jl (r:Int) (h:128<=r):bp r=false:=by
 unfold bp eX;rw[dF (by omega),dF (by omega)];rfl
theorem gP (r:Int) (h:128<=r):cL r=false:=by
 unfold cL;exact dF (by omega)
theorem yC (r:Int) (h0:0<=r) (h1:r<=1114111) (w:World):Calls Tryz.prog 181 #[.int .i32 r] w fun e w'=>e=.returned (.bool (bp r))/\w=w':=by
 by_cases hr:r<128
 ·have hidx:=BO ⟨r.toNat,by omega⟩
  have hrn:((r.toNat:Nat):Int)=r:=by omega
  simp only[hrn] at hidx;obtain⟨i0,hi0⟩:∃i,i=Lib.indexByte [45,46,95,126,33,36,38,39,40,41,42,43,44,59,61] (UInt8.ofNat r.toNat):=⟨_,rfl⟩
  have HI:Hid (∀W:World,Calls Tryz.prog 152 #[.string ⟨#[45,46,95,126,33,36,38,39,40,41,42,43,44,59,61]⟩,.int .u8 r] W fun e w'=>e=.returned (.int .i64 i0)/\w'=W):=fun W=>by
   rw[hi0];exact Tryz.strings_IndexByte ⟨#[45,46,95,126,33,36,38,39,40,41,42,43,44,59,61]⟩ r W
  rw[<-hi0] at hidx;have HS:=lH hidx;clear hidx hrn hi0;rcases (by omega:r<48\/(48<=r/\r<=57)\/(57<r/\r<65)\/(65<=r/\r<=90)\/(90<r/\r<97)\/(97<=r/\r<=122)\/122<r) with h|⟨h,h'⟩|⟨h,h'⟩|⟨h,h'⟩|⟨h,h'⟩|⟨h,h'⟩|h
  ·have HV:Hid (bp r=eX r):=by show bp r=eX r;unfold bp;rw[dF (by omega),Bool.false_or]
   have dl0:decide (48<=r)=false:=dF (by omega);have dl1:decide (65<=r)=false:=dF (by omega);have dl2:decide (97<=r)=false:=dF (by omega);have du0:decide (r<=57)=true:=dT (by omega);have du1:decide (r<=90)=true:=dT (by omega);have du2:decide (r<=122)=true:=dT (by omega);have d128:decide (r<128)=true:=dT (by omega);cases hq:decide (0<=i0)
   all_goals
    have HE:Hid (eX r=decide (0<=i0)):=HS.out.symm;go_enter Tryz.func181,Tryz.ntmps181
    go_wp2_with (go_at_call 152;refine(HI.out _).mono ?_;rintro e' w' ⟨rfl,rfl⟩)
    go_ret;rw[HV.out,HE.out,hq];exact⟨rfl,rfl⟩
  ·have HV:Hid (bp r=true):=by show bp r=true;unfold bp;rw[FU];left;exact dT (by omega)
   have dl0:decide (48<=r)=true:=dT (by omega);have dl1:decide (65<=r)=false:=dF (by omega);have dl2:decide (97<=r)=false:=dF (by omega);have du0:decide (r<=57)=true:=dT (by omega);have du1:decide (r<=90)=true:=dT (by omega);have du2:decide (r<=122)=true:=dT (by omega);have d128:decide (r<128)=true:=dT (by omega);go_enter Tryz.func181,Tryz.ntmps181
   go_wp2_with fail
   go_ret;rw[HV.out];exact⟨rfl,rfl⟩
  ·have HV:Hid (bp r=eX r):=by show bp r=eX r;unfold bp;rw[dF (by omega),Bool.false_or]
   have dl0:decide (48<=r)=true:=dT (by omega);have dl1:decide (65<=r)=false:=dF (by omega);have dl2:decide (97<=r)=false:=dF (by omega);have du0:decide (r<=57)=false:=dF (by omega);have du1:decide (r<=90)=true:=dT (by omega);have du2:decide (r<=122)=true:=dT (by omega);have d128:decide (r<128)=true:=dT (by omega);cases hq:decide (0<=i0)
   all_goals
    have HE:Hid (eX r=decide (0<=i0)):=HS.out.symm;go_enter Tryz.func181,Tryz.ntmps181
    go_wp2_with (go_at_call 152;refine(HI.out _).mono ?_;rintro e' w' ⟨rfl,rfl⟩)
    go_ret;rw[HV.out,HE.out,hq];exact⟨rfl,rfl⟩
  ·have HV:Hid (bp r=true):=by show bp r=true;unfold bp;rw[FU];left;exact dT (by omega)
   have dl0:decide (48<=r)=true:=dT (by omega);have dl1:decide (65<=r)=true:=dT (by omega);have dl2:decide (97<=r)=false:=dF (by omega);have du0:decide (r<=57)=false:=dF (by omega);have du1:decide (r<=90)=true:=dT (by omega);have du2:decide (r<=122)=true:=dT (by omega);have d128:decide (r<128)=true:=dT (by omega);go_enter Tryz.func181,Tryz.ntmps181
   go_wp2_with fail
   go_ret;rw[HV.out];exact⟨rfl,rfl⟩
  ·have HV:Hid (bp r=eX r):=by show bp r=eX r;unfold bp;rw[dF (by omega),Bool.false_or]
   have dl0:decide (48<=r)=true:=dT (by omega);have dl1:decide (65<=r)=true:=dT (by omega);have dl2:decide (97<=r)=false:=dF (by omega);have du0:decide (r<=57)=false:=dF (by omega);have du1:decide (r<=90)=false:=dF (by omega);have du2:decide (r<=122)=true:=dT (by omega);have d128:decide (r<128)=true:=dT (by omega);cases hq:decide (0<=i0)
   all_goals
    have HE:Hid (eX r=decide (0<=i0)):=HS.out.symm;go_enter Tryz.func181,Tryz.ntmps181
    go_wp2_with (go_at_call 152;refine(HI.out _).mono ?_;rintro e' w' ⟨rfl,rfl⟩)
    go_ret;rw[HV.out,HE.out,hq];exact⟨rfl,rfl⟩
  ·have HV:Hid (bp r=true):=by show bp r=true;unfold bp;rw[FU];left;exact dT (by omega)
   have dl0:decide (48<=r)=true:=dT (by omega);have dl1:decide (65<=r)=true:=dT (by omega);have dl2:decide (97<=r)=true:=dT (by omega);have du0:decide (r<=57)=false:=dF (by omega);have du1:decide (r<=90)=false:=dF (by omega);have du2:decide (r<=122)=true:=dT (by omega);have d128:decide (r<128)=true:=dT (by omega);go_enter Tryz.func181,Tryz.ntmps181
   go_wp2_with fail
   go_ret;rw[HV.out];exact⟨rfl,rfl⟩
  ·have HV:Hid (bp r=eX r):=by show bp r=eX r;unfold bp;rw[dF (by omega),Bool.false_or]
   have dl0:decide (48<=r)=true:=dT (by omega);have dl1:decide (65<=r)=true:=dT (by omega);have dl2:decide (97<=r)=true:=dT (by omega);have du0:decide (r<=57)=false:=dF (by omega);have du1:decide (r<=90)=false:=dF (by omega);have du2:decide (r<=122)=false:=dF (by omega);have d128:decide (r<128)=true:=dT (by omega);cases hq:decide (0<=i0)
   all_goals
    have HE:Hid (eX r=decide (0<=i0)):=HS.out.symm;go_enter Tryz.func181,Tryz.ntmps181
    go_wp2_with (go_at_call 152;refine(HI.out _).mono ?_;rintro e' w' ⟨rfl,rfl⟩)
    go_ret;rw[HV.out,HE.out,hq];exact⟨rfl,rfl⟩
 ·have HV:=lH (jl r (by omega))
  have hr2:128<=r:=by omega
  obtain⟨c,hc⟩:∃c,c=r % 256:=⟨_,rfl⟩;obtain⟨i0,hi0⟩:∃i,i=Lib.indexByte [45,46,95,126,33,36,38,39,40,41,42,43,44,59,61] (UInt8.ofNat (r % 256).toNat):=⟨_,rfl⟩
  have HI:Hid (∀W:World,Calls Tryz.prog 152 #[.string ⟨#[45,46,95,126,33,36,38,39,40,41,42,43,44,59,61]⟩,.int .u8 (r % 256)] W fun e w'=>e=.returned (.int .i64 i0)/\w'=W):=fun W=>by
   rw[hi0];exact Tryz.strings_IndexByte ⟨#[45,46,95,126,33,36,38,39,40,41,42,43,44,59,61]⟩ (r % 256) W
  clear hr hi0 hc;have dl0:decide (48<=r)=true:=dT (by omega);have dl1:decide (65<=r)=true:=dT (by omega);have dl2:decide (97<=r)=true:=dT (by omega);have du0:decide (r<=57)=false:=dF (by omega);have du1:decide (r<=90)=false:=dF (by omega);have du2:decide (r<=122)=false:=dF (by omega);have d128:decide (r<128)=false:=dF (by omega);cases hq:decide (0<=i0)
  all_goals
   go_enter Tryz.func181,Tryz.ntmps181
   go_wp2_with (go_at_call 152;refine(HI.out _).mono ?_;rintro e' w' ⟨rfl,rfl⟩)
   go_ret;rw[HV.out];exact⟨rfl,rfl⟩
theorem rA (s:ByteArray) (k:Nat) (h:k<s.size):∃(r:Int) (wd:Nat),r=((Utf8.decode s k).1:Int)/\wd=(Utf8.decode s k).2/\0<=r/\r<=1114111/\1<=wd/\((r=(s[k]'h).toNat/\wd=1/\r<128)\/(128<=r/\128<=(s[k]'h).toNat)):=by
 obtain⟨r,wd,h1,h2,h3,h4,h5,_⟩:=ko s k h;refine⟨r,wd,h1,h2,h3,h4,h5,?_⟩;by_cases ha:(s[k]'h).toNat<128
 ·left
  have hd:=decode_ascii s k h ha;rw[hd] at h1 h2;exact⟨h1,h2,by rw[h1];simp;omega⟩
 ·right
  have hh:=decode_high s k h (by omega);exact⟨by rw[h1];have:=hh.1;omega,by omega⟩
end Go.Proofs.YthjbodpeckebiaaGreatDoor
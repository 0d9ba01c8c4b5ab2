/- Texts packed for one claim, 25 of 48: Low HostW. -/
import Derived.Test.YthjbodpeckebiaaGreatDoorRdnQ4
import Derived.Test.YthjbodpeckebiaaGreatDoorRdnQ24
import Derived.Test.YthjbodpeckebiaaGreatDoorRdnQ18
import Derived.Laws.IdiomStrings
import Derived.Lib.SlBytesRow
import Derived.Lib.BufferRead
import Derived.Test.YthjbodpeckebiaaGreatDoorRdnShelf
set_option maxRecDepth 100000
set_option maxHeartbeats 16000000
set_option linter.unusedSimpArgs false
set_option linter.unusedVariables false
-- Low
namespace Go.Proofs.YthjbodpeckebiaaGreatDoor
open Go.RowKit
theorem io (s:ByteArray) (k:Nat) (h:k<s.size):bt (aS s) k=bO (bt s k):=by
 have h2:k<(aS s).size:=by rw[bg];exact h
 rw[cd _ k h2,cd s k h,<-qY];congr 2
 show (qZ s.data.toList).toArray[k]=_;simp[qZ];rfl
theorem tq {a b:ByteArray} (hn:a.size=b.size) (h:∀j,j<a.size->bt a j=bt b j):a=b:=by
 apply cL;apply List.ext_getElem
 ·simpa using hn
 ·intro j h1 h2
  have h1':j<a.size:=by simpa using h1
  have h2':j<b.size:=by simpa using h2
  have:=h j h1';rw[cd a j h1',cd b j h2'] at this
  exact ut.1 (by
   have e1:a.data.toList[j]=a[j]:=rfl;have e2:b.data.toList[j]=b[j]:=rfl
   rw[e1,e2];omega)
theorem qN {a b:ByteArray} (hn:a.size=b.size) (h:∀j,j<a.size->bO (bt a j)=bO (bt b j)):aS a=aS b:=by
 refine tq (by rw[bg,bg,hn]) (fun j hj=>?_);rw[bg] at hj;rw[io a j hj,io b j (by omega),h j hj]
theorem jP (c:Int) (h0:0<=c) (h1:c<=255) (w:World):Calls Tryz.prog 215 #[.int .u8 c] w fun e w'=>e=.returned (.int .u8 (bO c))/\w=w':=by
 rcases (by omega:c<65\/(65<=c/\c<=90)\/90<c) with h|⟨h,h'⟩|h
 ·have HV:Hid (bO c=c):=by show bO c=c;unfold bO;rw[if_neg (by omega)]
  go_enter Tryz.func215,Tryz.ntmps215
  go_wp2_with fail
  go_ret;rw[HV.out];exact⟨rfl,rfl⟩
 ·have HV:Hid (bO c=c+97 - 65):=by show bO c=c+97 - 65;unfold bO;rw[if_pos (by omega)];omega
  go_enter Tryz.func215,Tryz.ntmps215
  go_wp2_with fail
  go_ret;rw[HV.out];exact⟨rfl,rfl⟩
 ·have HV:Hid (bO c=c):=by show bO c=c;unfold bO;rw[if_neg (by omega)]
  go_enter Tryz.func215,Tryz.ntmps215
  go_wp2_with fail
  go_ret;rw[HV.out];exact⟨rfl,rfl⟩
theorem jD (w:World) (m n:Nat):(w.drewN m).drewN n=w.drewN (m+n):=by
 unfold World.drewN;simp[uY]
theorem iD (c:Int) (h0:0<=c) (h1:c<=255) (w:World) (m:Nat):Calls Tryz.prog 215 #[.int .u8 c] (w.drewN m) fun e w'=>e=.returned (.int .u8 (bO c))/\w'=w.drewN m:=(jP c h0 h1 _).mono fun _ _ h=>⟨h.1,h.2.symm⟩
theorem qM (a b:ByteArray) (ha:a.size<=1000000) (hb:b.size<=1000000) (w:World):Calls Tryz.prog 178 #[.string a,.string b] w fun e w'=>e=.returned (.bool (decide (aS a=aS b)))/\∃m,w'=w.drewN m:=by
 by_cases hn:a.size=b.size
 ·obtain⟨n,hna⟩:∃n,n=a.size:=⟨_,rfl⟩
  have HNA:=lH hna;have HNB:Hid (n=b.size):=by show n=b.size;omega
  have ls1:a.size=n:=hna.symm;have ls2:b.size=n:=by omega
  have e0:((n:Int) != (n:Int))=false:=by simp
  have hnn:n<=1000000:=by omega
  clear hn hna ha hb;go_enter Tryz.func178,Tryz.ntmps178
  go_wp2_with fail
  go_loopw [13] (fun i wr=>∃k m:Nat,k<=n/\i=.int .i64 k/\wr=w.drewN m/\∀j,j<k->bO (bt a j)=bO (bt b j)) (fun i _=>n - (intOf i).toNat)
  case atStart=>exact⟨0,0,by omega,rfl,rfl,fun j hj=>by omega⟩
  case round=>
   obtain⟨k,m,hk,rfl,hwr,hall⟩:=hrel;have HA:=lH hall;have HWR:=lH hwr;clear hall hwr;by_cases hlt:k<n
   ·have hk1:decide ((k:Int)<(n:Int))=true:=dT (by omega)
    have hix:=ar a k (by omega);have hiy:=ar b k (by omega);have hxr:=cq a k;have hyr:=cq b k;obtain⟨x,hx⟩:∃x,x=bt a k:=⟨_,rfl⟩;obtain⟨y,hy⟩:∃y,y=bt b k:=⟨_,rfl⟩;rw[<-hx] at hix hxr;rw[<-hy] at hiy hyr;have HX:=lH hx;have HY:=lH hy;have hx0:=hxr.1;have hx1:=hxr.2;have hy0:=hyr.1;have hy1:=hyr.2;clear hx hy hxr hyr;by_cases hpq:bO x=bO y
    ·have HPQ:=lH hpq
     have p1:(bO x != bO y)=false:=by rw[hpq];simp
     have p2:(bO x==bO y)=true:=by rw[hpq];simp
     clear hpq;go_wp2_with fail
     go_quiet ((go_at_call 215;refine Calls.quiet_of_same (iD _ ?_ ?_ _ _)<;>assumption))
     go_wp2_with fail
     go_roundw
     case rel=>
      refine⟨k+1,_,hlt,by go_num,by rw[HWR.out,jD],fun j hj=>?_⟩;rcases (by omega:j=k\/j<k) with rfl|h
      ·rw[<-HX.out,<-HY.out];exact HPQ.out
      ·exact HA.out j h
     case measure=>simp[intOf];omega
    ·have HE:Hid (decide (aS a=aS b)=false):=dF (fun e=>hpq (by rw[HX.out,HY.out,<-io a k (by omega),<-io b k (by omega),e]))
     have p1:(bO x != bO y)=true:=by rw[uI];exact hpq
     have p2:(bO x==bO y)=false:=by rw[tT];exact hpq
     clear hpq;go_wp2_with fail
     go_quiet ((go_at_call 215;refine Calls.quiet_of_same (iD _ ?_ ?_ _ _)<;>assumption))
     go_wp2_with fail
     go_ret;rw[HE.out];exact⟨rfl,_,by rw[HWR.out,jD]⟩
   ·have hkn:k=n:=by omega
    have HE:Hid (decide (aS a=aS b)=true):=dT (qN (by omega) (fun j hj=>HA.out j (by omega)));have hk1:decide ((k:Int)<(n:Int))=false:=dF (by omega);clear hkn;go_wp2_with fail
    go_ret;rw[HE.out];exact⟨rfl,m,HWR.out⟩
 ·have HE:Hid (decide (aS a=aS b)=false):=dF (fun e=>hn (by rw[<-bg a,e,bg]))
  have e0:((a.size:Int) != (b.size:Int))=true:=by simp;omega
  go_enter Tryz.func178,Tryz.ntmps178
  go_wp2_with fail
  go_ret;rw[HE.out];exact⟨rfl,0,rfl⟩
def dw (w:World) (g m:Nat) (C:Array Value):Prop:=w.heap[g]? = some (.cells C 5 (m,m+1))/\C.size=m
theorem dw.cell {w:World} {g m:Nat} {C:Array Value} (h:dw w g m C) (k:Nat):w.cell? ⟨g,k,none⟩=C[k]?:=by
 simp[World.cell?,h.1]
theorem dw.froz {w:World} {g m:Nat} {C:Array Value} (h:dw w g m C) (k:Nat) (hk:k<m):w.frozen? ⟨g,k,none⟩=false:=by
 simp[World.frozen?,h.1];omega
theorem dw.set {w:World} {g m:Nat} {C:Array Value} (h:dw w g m C) (k:Nat) (u:Value):dw (w.setCell ⟨g,k,none⟩ u) g m (C.setIfInBounds k u):=by
 refine⟨?_,by simpa using h.2⟩;simp[World.setCell,Array.getElem?_modify,h.1]
theorem kT (s:ByteArray) (cap j:Nat) (h:j<s.size):(bytesRow s cap)[j]? = some (.int .u8 (bt s j)):=by
 unfold bytesRow;have h2:j<s.data.size:=h;rw[Array.getElem?_append_left (by simpa using h2),Array.getElem?_map,Array.getElem?_eq_getElem h2,cd s j h];rfl
theorem iH (s:ByteArray) (hs:s.size<=1000000) (w:World):Calls Tryz.prog 190 #[.string s] w fun e w'=>e=.returned (.string (aS s))/\Below w.heap.size w w':=by
 obtain⟨cp,hcp⟩:∃cp,cp=grownCap w s.size 0 5:=⟨_,rfl⟩;obtain⟨C0,hC0⟩:∃C,C=bytesRow s cp:=⟨_,rfl⟩;obtain⟨m,hm⟩:∃m,m=C0.size:=⟨_,rfl⟩
 have kc:(convert 9 134 (.string s)).run Tryz.prog w=.ok (.slice (some ⟨w.heap.size,0,none⟩) s.size cp) (w.drew.alloc (.cells C0 5 (m,m+1))):=by
  rw[run_bytes_of_string (P:=Tryz.prog) w 9 134 5 s Tryz.underlying9 Tryz.underlying134 Tryz.underlying5,<-hcp,<-hC0,<-hm]
 have HC0:Hid (∀j,j<s.size->C0[j]? = some (.int .u8 (bt s j))):=by
  show ∀j,_->_;intro j hj;rw[hC0];exact kT s cp j hj
 have HMS:Hid (s.size<=m):=by
  show _<=_;rw[hm,hC0];unfold bytesRow;rw[Array.size_append,Array.size_map];exact uv _ _
 have HM0:Hid (dw (w.drew.alloc (.cells C0 5 (m,m+1))) w.heap.size m C0):=⟨heap_alloc_new w.drew _,hm.symm⟩;have HB0:Hid (Below w.heap.size w (w.drew.alloc (.cells C0 5 (m,m+1)))):=((tU _ w).drew).alloc (nR _) _;have hsi:(s.size:Int)<=1000000:=by omega
 clear hcp hC0 hm;go_enter Tryz.func190,Tryz.ntmps190
 go_wp2_with fail
 go_loopw [10] (fun i wr=>∃(k:Nat) (C:Array Value),k<=s.size/\i=.int .i64 k/\dw wr w.heap.size m C/\(∀j,j<s.size->C[j]? = some (.int .u8 (if j<k then bO (bt s j) else bt s j)))/\Below w.heap.size w wr) (fun i _=>s.size - (intOf i).toNat)
 case atStart=>exact⟨0,C0,tX _,rfl,HM0.out,fun j hj=>by rw[if_neg (by omega)];exact HC0.out j hj,HB0.out⟩
 case round=>
  obtain⟨k,C,hk,rfl,hM,hC,hbel⟩:=hrel;have HM:=lH hM;have HC:=lH hC;have HB:=lH hbel;clear kc hM hC hbel;by_cases hlt:k<s.size
  ·have hk1:decide ((k:Int)<(s.size:Int))=true:=dT (by omega)
   have c0:=HM.out.cell k;rw[HC.out k hlt,if_neg (by omega)] at c0;have f0:=HM.out.froz k (uD hlt HMS.out);have hr:=cq s k;obtain⟨x,hx⟩:∃x,x=bt s k:=⟨_,rfl⟩;rw[<-hx] at c0 hr;have hx0:=hr.1;have hx1:=hr.2;have HX:=lH hx;clear hx hr;go_wp2_with (go_at_call 215;refine(jP x hx0 hx1 _).mono ?_;rintro e' w' ⟨rfl,rfl⟩)
   go_roundw
   case rel=>
    refine⟨k+1,_,hlt,by go_num,HM.out.set k (.int .u8 (bO x)),fun j hj=>?_,HB.out.setCell (p:=⟨w.heap.size,k,none⟩) (nR _) _⟩;rw[Array.getElem?_setIfInBounds];by_cases e:k=j
    ·subst e
     have hcs:k<C.size:=by rw[HM.out.2];exact uD hlt HMS.out
     rw[if_pos rfl,if_pos hcs,if_pos (Nat.lt_succ_self _),HX.out]
    ·rw[if_neg e,HC.out j hj]
     by_cases h:j<k
     ·rw[if_pos h,if_pos (by omega)]
     ·rw[if_neg h,if_neg (by omega)]
   case measure=>simp[intOf];omega
  ·have hk1:decide ((k:Int)<(s.size:Int))=false:=dF (by omega)
   have hkn:k=s.size:=by omega
   have kc2:(convert 134 9 (.slice (some ⟨w.heap.size,0,none⟩) s.size cp)).run Tryz.prog wr=.ok (.string (aS s)) wr:=by
    have h:=Lib.run_convert_whole (P:=Tryz.prog) wr 134 5 9 Tryz.underlying134 Tryz.underlying5 Tryz.underlying9 w.heap.size 0 (aS s) (fun j hj=>?_) cp
    ·rw[bg] at h
     exact h
    ·have hj':j<s.size:=by rw[bg] at hj;exact hj
     rw[uJ,HM.out.cell j,HC.out j hj',if_pos (by omega),<-io s j hj',cd _ j hj]
   clear hkn;go_wp2_with fail
   go_ret;exact⟨rfl,HB.out⟩
theorem rb {w:World} {B:Nat} {v:Value} {l:List UInt8} (h:cm w B v l):(convert 134 9 v).run Tryz.prog w=.ok (.string ⟨l.toArray⟩) w:=by
 obtain⟨_,h⟩:=h;rcases h with ⟨rfl,h0⟩|⟨g,cap,cur,rfl,_,hg,h1,h2,h3,h4⟩
 ·have:l=[]:=t9 h0
  subst this;exact Lib.run_convert_nil_bytes (P:=Tryz.prog) w 134 9 5 0 Tryz.underlying134 Tryz.underlying5 Tryz.underlying9
 ·refine run_convert_bytes_back (P:=Tryz.prog) w 134 9 5 ⟨g,0,none⟩ cap l Tryz.underlying134 Tryz.underlying5 Tryz.underlying9 (fun j hj=>?_)
  rw[hO,uJ];have a:(l.map fun b=>Value.int .u8 b.toNat)[j]? = some (.int .u8 (l[j].toNat:Int)):=by rw[u2,tW hj];rfl
  rw[<-h4,vg,if_pos (by omega)] at a;simp only[World.cell?,hg];simp only[Array.getElem?_toList] at a;exact a
theorem cm.empty (w:World):cm (w.alloc (.cells #[] 5)) w.heap.size (.slice (some ⟨w.heap.size,0,none⟩) 0 0) []:=World.ownsRow_lit w #[] 0 (nR _) (by decide) rfl
theorem d5 {w:World} {B:Nat} {v:Value} {l:List UInt8} (h:cm w B v l):∀k,v.ownBlock=some k->B<=k:=by
 intro k hk;obtain⟨_,h2⟩:=h;rcases h2 with ⟨rfl,_⟩|⟨g',cap,cur,rfl,hB,hg,_⟩
 ·cases hk
 ·have:g'=k:=by injection hk
  subst this;exact hB
end Go.Proofs.YthjbodpeckebiaaGreatDoor
-- HostW
namespace Go.Proofs.YthjbodpeckebiaaGreatDoor
open Go.RowKit
theorem nH (r:Int) (h0:0<=r) (h1:r<=1114111) (w:World):Calls Tryz.prog 180 #[.int .i32 r] w fun e w'=>e=.returned (.bool (bW r))/\w=w':=by
 rcases (by omega:r<48\/(48<=r/\r<=57)\/(57<r/\r<65)\/(65<=r/\r<=70)\/(70<r/\r<97)\/(97<=r/\r<=102)\/102<r) with h|⟨h,h'⟩|⟨h,h'⟩|⟨h,h'⟩|⟨h,h'⟩|⟨h,h'⟩|h
 ·have HV:Hid (bW r=false):=by show bW r=false;unfold bW;exact dF (by omega)
  have dl0:decide (48<=r)=false:=dF (by omega);have dl1:decide (65<=r)=false:=dF (by omega);have dl2:decide (97<=r)=false:=dF (by omega);have du0:decide (r<=57)=true:=dT (by omega);have du1:decide (r<=70)=true:=dT (by omega);have du2:decide (r<=102)=true:=dT (by omega);go_enter Tryz.func180,Tryz.ntmps180
  go_wp2_with fail
  go_ret;rw[HV.out];exact⟨rfl,rfl⟩
 ·have HV:Hid (bW r=true):=by show bW r=true;unfold bW;exact dT (by omega)
  have dl0:decide (48<=r)=true:=dT (by omega);have dl1:decide (65<=r)=false:=dF (by omega);have dl2:decide (97<=r)=false:=dF (by omega);have du0:decide (r<=57)=true:=dT (by omega);have du1:decide (r<=70)=true:=dT (by omega);have du2:decide (r<=102)=true:=dT (by omega);go_enter Tryz.func180,Tryz.ntmps180
  go_wp2_with fail
  go_ret;rw[HV.out];exact⟨rfl,rfl⟩
 ·have HV:Hid (bW r=false):=by show bW r=false;unfold bW;exact dF (by omega)
  have dl0:decide (48<=r)=true:=dT (by omega);have dl1:decide (65<=r)=false:=dF (by omega);have dl2:decide (97<=r)=false:=dF (by omega);have du0:decide (r<=57)=false:=dF (by omega);have du1:decide (r<=70)=true:=dT (by omega);have du2:decide (r<=102)=true:=dT (by omega);go_enter Tryz.func180,Tryz.ntmps180
  go_wp2_with fail
  go_ret;rw[HV.out];exact⟨rfl,rfl⟩
 ·have HV:Hid (bW r=true):=by show bW r=true;unfold bW;exact dT (by omega)
  have dl0:decide (48<=r)=true:=dT (by omega);have dl1:decide (65<=r)=true:=dT (by omega);have dl2:decide (97<=r)=false:=dF (by omega);have du0:decide (r<=57)=false:=dF (by omega);have du1:decide (r<=70)=true:=dT (by omega);have du2:decide (r<=102)=true:=dT (by omega);go_enter Tryz.func180,Tryz.ntmps180
  go_wp2_with fail
  go_ret;rw[HV.out];exact⟨rfl,rfl⟩
 ·have HV:Hid (bW r=false):=by show bW r=false;unfold bW;exact dF (by omega)
  have dl0:decide (48<=r)=true:=dT (by omega);have dl1:decide (65<=r)=true:=dT (by omega);have dl2:decide (97<=r)=false:=dF (by omega);have du0:decide (r<=57)=false:=dF (by omega);have du1:decide (r<=70)=false:=dF (by omega);have du2:decide (r<=102)=true:=dT (by omega);go_enter Tryz.func180,Tryz.ntmps180
  go_wp2_with fail
  go_ret;rw[HV.out];exact⟨rfl,rfl⟩
 ·have HV:Hid (bW r=true):=by show bW r=true;unfold bW;exact dT (by omega)
  have dl0:decide (48<=r)=true:=dT (by omega);have dl1:decide (65<=r)=true:=dT (by omega);have dl2:decide (97<=r)=true:=dT (by omega);have du0:decide (r<=57)=false:=dF (by omega);have du1:decide (r<=70)=false:=dF (by omega);have du2:decide (r<=102)=true:=dT (by omega);go_enter Tryz.func180,Tryz.ntmps180
  go_wp2_with fail
  go_ret;rw[HV.out];exact⟨rfl,rfl⟩
 ·have HV:Hid (bW r=false):=by show bW r=false;unfold bW;exact dF (by omega)
  have dl0:decide (48<=r)=true:=dT (by omega);have dl1:decide (65<=r)=true:=dT (by omega);have dl2:decide (97<=r)=true:=dT (by omega);have du0:decide (r<=57)=false:=dF (by omega);have du1:decide (r<=70)=false:=dF (by omega);have du2:decide (r<=102)=false:=dF (by omega);go_enter Tryz.func180,Tryz.ntmps180
  go_wp2_with fail
  go_ret;rw[HV.out];exact⟨rfl,rfl⟩
theorem rz:∀n:Fin 128,decide (0<=Lib.indexByte [45,46,95,126,33,36,38,39,40,41,42,43,44,59,61] (UInt8.ofNat n.val))=cQ (n.val:Int):=by decide +kernel
theorem ey (r:Int) (h:128<=r):aE r=false:=by
 unfold aE cQ;rw[dF (by omega),dF (by omega)];rfl
theorem di (r:Int) (h:128<=r):bW r=false:=by
 unfold bW;exact dF (by omega)
theorem pz (r:Int) (h0:0<=r) (h1:r<=1114111) (w:World):Calls Tryz.prog 181 #[.int .i32 r] w fun e w'=>e=.returned (.bool (aE r))/\w=w':=by
 by_cases hr:r<128
 ·have hidx:=rz ⟨r.toNat,by omega⟩
  have hrn:((r.toNat:Nat):Int)=r:=by omega
  simp only[hrn] at hidx;obtain⟨i0,hi0⟩:∃i,i=Lib.indexByte [45,46,95,126,33,36,38,39,40,41,42,43,44,59,61] (UInt8.ofNat r.toNat):=⟨_,rfl⟩
  have HI:Hid (∀W:World,Calls Tryz.prog 152 #[.string ⟨#[45,46,95,126,33,36,38,39,40,41,42,43,44,59,61]⟩,.int .u8 r] W fun e w'=>e=.returned (.int .i64 i0)/\w'=W):=fun W=>by
   rw[hi0];exact Tryz.strings_IndexByte ⟨#[45,46,95,126,33,36,38,39,40,41,42,43,44,59,61]⟩ r W
  rw[<-hi0] at hidx;have HS:=lH hidx;clear hidx hrn hi0;rcases (by omega:r<48\/(48<=r/\r<=57)\/(57<r/\r<65)\/(65<=r/\r<=90)\/(90<r/\r<97)\/(97<=r/\r<=122)\/122<r) with h|⟨h,h'⟩|⟨h,h'⟩|⟨h,h'⟩|⟨h,h'⟩|⟨h,h'⟩|h
  ·have HV:Hid (aE r=cQ r):=by show aE r=cQ r;unfold aE;rw[dF (by omega),Bool.false_or]
   have dl0:decide (48<=r)=false:=dF (by omega);have dl1:decide (65<=r)=false:=dF (by omega);have dl2:decide (97<=r)=false:=dF (by omega);have du0:decide (r<=57)=true:=dT (by omega);have du1:decide (r<=90)=true:=dT (by omega);have du2:decide (r<=122)=true:=dT (by omega);have d128:decide (r<128)=true:=dT (by omega);cases hq:decide (0<=i0)
   all_goals
    have HE:Hid (cQ r=decide (0<=i0)):=HS.out.symm;go_enter Tryz.func181,Tryz.ntmps181
    go_wp2_with (go_at_call 152;refine(HI.out _).mono ?_;rintro e' w' ⟨rfl,rfl⟩)
    go_ret;rw[HV.out,HE.out,hq];exact⟨rfl,rfl⟩
  ·have HV:Hid (aE r=true):=by show aE r=true;unfold aE;rw[uM];left;exact dT (by omega)
   have dl0:decide (48<=r)=true:=dT (by omega);have dl1:decide (65<=r)=false:=dF (by omega);have dl2:decide (97<=r)=false:=dF (by omega);have du0:decide (r<=57)=true:=dT (by omega);have du1:decide (r<=90)=true:=dT (by omega);have du2:decide (r<=122)=true:=dT (by omega);have d128:decide (r<128)=true:=dT (by omega);go_enter Tryz.func181,Tryz.ntmps181
   go_wp2_with fail
   go_ret;rw[HV.out];exact⟨rfl,rfl⟩
  ·have HV:Hid (aE r=cQ r):=by show aE r=cQ r;unfold aE;rw[dF (by omega),Bool.false_or]
   have dl0:decide (48<=r)=true:=dT (by omega);have dl1:decide (65<=r)=false:=dF (by omega);have dl2:decide (97<=r)=false:=dF (by omega);have du0:decide (r<=57)=false:=dF (by omega);have du1:decide (r<=90)=true:=dT (by omega);have du2:decide (r<=122)=true:=dT (by omega);have d128:decide (r<128)=true:=dT (by omega);cases hq:decide (0<=i0)
   all_goals
    have HE:Hid (cQ r=decide (0<=i0)):=HS.out.symm;go_enter Tryz.func181,Tryz.ntmps181
    go_wp2_with (go_at_call 152;refine(HI.out _).mono ?_;rintro e' w' ⟨rfl,rfl⟩)
    go_ret;rw[HV.out,HE.out,hq];exact⟨rfl,rfl⟩
  ·have HV:Hid (aE r=true):=by show aE r=true;unfold aE;rw[uM];left;exact dT (by omega)
   have dl0:decide (48<=r)=true:=dT (by omega);have dl1:decide (65<=r)=true:=dT (by omega);have dl2:decide (97<=r)=false:=dF (by omega);have du0:decide (r<=57)=false:=dF (by omega);have du1:decide (r<=90)=true:=dT (by omega);have du2:decide (r<=122)=true:=dT (by omega);have d128:decide (r<128)=true:=dT (by omega);go_enter Tryz.func181,Tryz.ntmps181
   go_wp2_with fail
   go_ret;rw[HV.out];exact⟨rfl,rfl⟩
  ·have HV:Hid (aE r=cQ r):=by show aE r=cQ r;unfold aE;rw[dF (by omega),Bool.false_or]
   have dl0:decide (48<=r)=true:=dT (by omega);have dl1:decide (65<=r)=true:=dT (by omega);have dl2:decide (97<=r)=false:=dF (by omega);have du0:decide (r<=57)=false:=dF (by omega);have du1:decide (r<=90)=false:=dF (by omega);have du2:decide (r<=122)=true:=dT (by omega);have d128:decide (r<128)=true:=dT (by omega);cases hq:decide (0<=i0)
   all_goals
    have HE:Hid (cQ r=decide (0<=i0)):=HS.out.symm;go_enter Tryz.func181,Tryz.ntmps181
    go_wp2_with (go_at_call 152;refine(HI.out _).mono ?_;rintro e' w' ⟨rfl,rfl⟩)
    go_ret;rw[HV.out,HE.out,hq];exact⟨rfl,rfl⟩
  ·have HV:Hid (aE r=true):=by show aE r=true;unfold aE;rw[uM];left;exact dT (by omega)
   have dl0:decide (48<=r)=true:=dT (by omega);have dl1:decide (65<=r)=true:=dT (by omega);have dl2:decide (97<=r)=true:=dT (by omega);have du0:decide (r<=57)=false:=dF (by omega);have du1:decide (r<=90)=false:=dF (by omega);have du2:decide (r<=122)=true:=dT (by omega);have d128:decide (r<128)=true:=dT (by omega);go_enter Tryz.func181,Tryz.ntmps181
   go_wp2_with fail
   go_ret;rw[HV.out];exact⟨rfl,rfl⟩
  ·have HV:Hid (aE r=cQ r):=by show aE r=cQ r;unfold aE;rw[dF (by omega),Bool.false_or]
   have dl0:decide (48<=r)=true:=dT (by omega);have dl1:decide (65<=r)=true:=dT (by omega);have dl2:decide (97<=r)=true:=dT (by omega);have du0:decide (r<=57)=false:=dF (by omega);have du1:decide (r<=90)=false:=dF (by omega);have du2:decide (r<=122)=false:=dF (by omega);have d128:decide (r<128)=true:=dT (by omega);cases hq:decide (0<=i0)
   all_goals
    have HE:Hid (cQ r=decide (0<=i0)):=HS.out.symm;go_enter Tryz.func181,Tryz.ntmps181
    go_wp2_with (go_at_call 152;refine(HI.out _).mono ?_;rintro e' w' ⟨rfl,rfl⟩)
    go_ret;rw[HV.out,HE.out,hq];exact⟨rfl,rfl⟩
 ·have HV:=lH (ey r (by omega))
  have hr2:128<=r:=by omega
  obtain⟨c,hc⟩:∃c,c=r % 256:=⟨_,rfl⟩;obtain⟨i0,hi0⟩:∃i,i=Lib.indexByte [45,46,95,126,33,36,38,39,40,41,42,43,44,59,61] (UInt8.ofNat (r % 256).toNat):=⟨_,rfl⟩
  have HI:Hid (∀W:World,Calls Tryz.prog 152 #[.string ⟨#[45,46,95,126,33,36,38,39,40,41,42,43,44,59,61]⟩,.int .u8 (r % 256)] W fun e w'=>e=.returned (.int .i64 i0)/\w'=W):=fun W=>by
   rw[hi0];exact Tryz.strings_IndexByte ⟨#[45,46,95,126,33,36,38,39,40,41,42,43,44,59,61]⟩ (r % 256) W
  clear hr hi0 hc;have dl0:decide (48<=r)=true:=dT (by omega);have dl1:decide (65<=r)=true:=dT (by omega);have dl2:decide (97<=r)=true:=dT (by omega);have du0:decide (r<=57)=false:=dF (by omega);have du1:decide (r<=90)=false:=dF (by omega);have du2:decide (r<=122)=false:=dF (by omega);have d128:decide (r<128)=false:=dF (by omega);cases hq:decide (0<=i0)
  all_goals
   go_enter Tryz.func181,Tryz.ntmps181
   go_wp2_with (go_at_call 152;refine(HI.out _).mono ?_;rintro e' w' ⟨rfl,rfl⟩)
   go_ret;rw[HV.out];exact⟨rfl,rfl⟩
theorem kE (s:ByteArray) (k:Nat) (h:k<s.size):∃(r:Int) (wd:Nat),r=((Utf8.decode s k).1:Int)/\wd=(Utf8.decode s k).2/\0<=r/\r<=1114111/\1<=wd/\((r=(s[k]'h).toNat/\wd=1/\r<128)\/(128<=r/\128<=(s[k]'h).toNat)):=by
 obtain⟨r,wd,h1,h2,h3,h4,h5,_⟩:=eV s k h;refine⟨r,wd,h1,h2,h3,h4,h5,?_⟩;by_cases ha:(s[k]'h).toNat<128
 ·left
  have hd:=decode_ascii s k h ha;rw[hd] at h1 h2;exact⟨h1,h2,by rw[h1];simp;omega⟩
 ·right
  have hh:=decode_high s k h (by omega);exact⟨by rw[h1];have:=hh.1;omega,by omega⟩
end Go.Proofs.YthjbodpeckebiaaGreatDoor
/- Texts packed for one claim, 14 of 48: ReqPlain ReqR Req. -/
import Derived.Test.YthjbodpeckebiaaGreatDoorRdnQ4
import Derived.Test.YthjbodpeckebiaaGreatDoorRdnQ3
import Derived.Lib.SplitLaws
import Derived.Test.YthjbodpeckebiaaGreatDoorRdnShelf
set_option maxRecDepth 100000
set_option maxHeartbeats 16000000
set_option linter.unusedSimpArgs false
set_option linter.unusedVariables false
-- ReqPlain
namespace Go.Proofs.YthjbodpeckebiaaGreatDoor
open Go.RowKit
def bv (c:UInt8):Nat->List UInt8->List Nat
 | _,[]=>[]
 | o,b :: l=>if b=c then o :: bv c (o+1) l else bv c (o+1) l
theorem bQ (c:UInt8) (o:Nat) (l:List UInt8):bv c o (c :: l)=o :: bv c (o+1) l:=by rw[bv,if_pos rfl]
theorem bR {b c:UInt8} (h:b≠c) (o:Nat) (l:List UInt8):bv c o (b :: l)=bv c (o+1) l:=by rw[bv,if_neg h]
theorem ea (c:UInt8):∀(l:List UInt8) (o:Nat),(bv c o l).length=l.count c
 | [],_=>rfl
 | b :: l,o=>by
   by_cases h:b=c
   ·subst h;rw[bQ,t4,List.count_cons_self,ea b l]
   ·rw[bR h,List.count_cons_of_ne (by simpa using h),ea c l]
theorem fB (c:UInt8):∀(l:List UInt8) (o k:Nat),k∈bv c o l->o<=k/\k<o+l.length/\l[k - o]? = some c
 | [],_,_,h=>by simp[bv] at h
 | b :: l,o,k,h=>by
   by_cases hb:b=c
   ·subst hb
    rw[bQ,List.mem_cons] at h;rcases h with rfl|h
    ·simp
    ·have h1:=fB b l (o+1) k h
     refine⟨by omega,by simp only[t4];omega,?_⟩;rw[show k - o=(k - (o+1))+1 by omega,uO];exact h1.2.2
   ·rw[bR hb] at h
    have h1:=fB c l (o+1) k h;refine⟨by omega,by simp only[t4];omega,?_⟩;rw[show k - o=(k - (o+1))+1 by omega,uO];exact h1.2.2
theorem eR {c:UInt8}:∀{l:List UInt8} {o k:Nat} {r:List Nat},bv c o l=k :: r->o<=k/\(∀j,o+j<k->l[j]?≠some c)/\l[k - o]? = some c/\r=bv c (k+1) (l.drop (k - o+1))
 | [],_,_,_,h=>by simp[bv] at h
 | b :: l,o,k,r,h=>by
   by_cases hb:b=c
   ·subst hb
    rw[bQ] at h;obtain⟨rfl,rfl⟩:=List.cons.inj h;exact⟨nR _,fun j hj=>by omega,by simp,by simp⟩
   ·rw[bR hb] at h
    obtain⟨h1,h2,h3,h4⟩:=eR h;refine⟨by omega,fun j hj=>?_,?_,?_⟩
    ·cases j with
     | zero=>simpa using hb
     | succ j=>rw[uO];exact h2 j (by omega)
    ·rw[show k - o=(k - (o+1))+1 by omega,uO];exact h3
    ·rw[h4,show k - o+1=(k - (o+1)+1)+1 by omega,uA]
theorem nN (l:List UInt8) (c:UInt8) (j:Nat):Lib.occAt l [c] j=true↔l[j]? = some c:=by
 unfold Lib.occAt;rcases uG j l.length with h|h
 ·rw[un h,tW h]
  simp only[List.isPrefixOf,Bool.and_true,uB,Option.some.injEq];exact⟨Eq.symm,Eq.symm⟩
 ·rw[List.drop_eq_nil_of_le h,uH h]
  simp[List.isPrefixOf]
theorem jH {c:UInt8} {l:List UInt8} {k:Nat} {r:List Nat} (h:bv c 0 l=k :: r):Lib.index l [c]=k:=by
 obtain⟨_,h2,h3,_⟩:=eR h;rw[Nat.sub_zero] at h3;refine Lib.index_first ?_ ((nN l c k).2 h3) fun j hj=>?_
 ·rcases uG k l.length with h|h
  ·omega
  ·rw[uH h] at h3;cases h3
 ·rw[Bool.eq_false_iff]
  exact fun h5=>h2 j (by omega) ((nN l c j).1 h5)
theorem eS (c:UInt8):∀(l:List UInt8) (o d:Nat),bv c (o+d) l=(bv c o l).map (·+d)
 | [],_,_=>rfl
 | b :: l,o,d=>by
   by_cases h:b=c
   ·subst h;rw[bQ,bQ,List.map_cons,show o+d+1=(o+1)+d by omega,eS b l]
   ·rw[bR h,bR h,show o+d+1=(o+1)+d by omega,eS c l]
def rA:ByteArray:=⟨#[32]⟩
theorem jz (s:ByteArray):Lib.countB s rA=(bv 32 0 s.data.toList).length:=by
 rw[ea];exact Lib.count_one 32 _
theorem pW {s:ByteArray} {a b:Nat} (h:bv 32 0 s.data.toList=[a,b]):a<b/\b<s.size/\Lib.splitB rA 0 2 s=[s.extract 0 a,s.extract (a+1) b,s.extract (b+1) s.size]:=by
 have h1:=jH h;obtain⟨_,_,ha3,ha4⟩:=eR h;rw[Nat.sub_zero] at ha3 ha4
 have hal:a<s.size:=by
  rcases uG a s.size with h|h
  ·exact h
  ·rw[uH (by simpa using h)] at ha3;cases ha3
 have hb:=fB 32 _ 0 b (by rw[h];simp);have hbl:b<s.size:=by have:=hb.2.1;simpa using this
 have hab:a<b:=by
  have:=fB 32 _ (a+1) b (by rw[<-ha4];simp);omega
 refine⟨hab,hbl,?_⟩
 have hd:(s.extract (a+1) s.size).data.toList=s.data.toList.drop (a+1):=by
  rw[Lib.extract_data,uu (by rw[t7];simp)]
 have h2:bv 32 0 (s.extract (a+1) s.size).data.toList=[b - (a+1)]:=by
  have h3:=eS 32 (s.data.toList.drop (a+1)) 0 (a+1);rw[uJ,<-ha4] at h3;rw[hd];match hq:bv 32 0 (s.data.toList.drop (a+1)),h3 with
  | [x],h3=>simp only[List.map_cons,List.map_nil,List.cons.injEq] at h3;simp;omega
  | [],h3=>simp at h3
  | _ :: _ :: _,h3=>simp at h3
 have h3:=jH h2;rw[Lib.splitB_hit rA 0 1 s a h1,show (1:Nat)=0+1 from rfl,show s.extract (a+rA.size) s.size=s.extract (a+1) s.size from rfl,Lib.splitB_hit rA 0 0 _ (b - (a+1)) h3,Lib.splitB_zero];have hz:rA.size=1:=rfl;rw[hz,Nat.add_zero,Nat.add_zero];simp only[List.cons.injEq,and_true];refine⟨trivial,?_,?_⟩
 ·rw[ByteArray.extract_extract];congr 1;omega
 ·rw[ByteArray.extract_extract];simp;congr 1<;>omega
def da (s:ByteArray):(ByteArray×ByteArray×Int)×Int:=
 match bv 32 0 s.data.toList with
 | [a,b]=>
   if dV (s.extract 0 a).data.toList=false then ((⟨#[]⟩,⟨#[]⟩,0),6)
   else if gj (s.extract (a+1) b).data.toList=false then ((⟨#[]⟩,⟨#[]⟩,0),11)
   else if (aH (s.extract (b+1) s.size)).2≠0 then ((⟨#[]⟩,⟨#[]⟩,0),(aH (s.extract (b+1) s.size)).2)
   else ((s.extract 0 a,s.extract (a+1) b,(aH (s.extract (b+1) s.size)).1),0)
 | _=>((⟨#[]⟩,⟨#[]⟩,0),3)
end Go.Proofs.YthjbodpeckebiaaGreatDoor
-- ReqR
namespace Go.Proofs.YthjbodpeckebiaaGreatDoor
open Go.RowKit
theorem aP {P:Program} {id:Nat} {Q:Exit->Act->World->Prop} {a:Act} {w:World} {l:List Oper} (hm:P.follows .mixedOrders=true) (hB:Region.lexB .any l.toArray=true)
 (h:wpQuiet P l.toArray (fun w'=>∃n,w'=w.drewN n) (fun a'=>∀w',(∃n,w'=w.drewN n)->Q .normal a' w') l a):(Code.region id l.toArray true).wp P Q a w:=
 wp_region_quiet (C:=fun w'=>∃n,w'=w.drewN n) hm hB ⟨1,rfl⟩ (by simpa using h)
def qQ:Array Value:=#[.string ⟨#[]⟩,.string ⟨#[]⟩,.int .i64 0,.int .i64 0,.string ⟨#[]⟩,.slice none 0 0]
def hdW (w:World) (g:Nat) (m t:ByteArray) (k n:Int) (r:ByteArray):World:=(((((w.setCell ⟨g,0,none⟩ (.string m)).setCell ⟨g,1,none⟩ (.string t)).setCell ⟨g,2,none⟩ (.int .i64 k)).setCell ⟨g,3,none⟩ (.int .i64 n)).setCell ⟨g,4,none⟩ (.string r)).setCell ⟨g,5,none⟩ (.slice none 0 0)
theorem kn {w:World} {g:Nat} {ty:TypeId} {a b c d e f:Value} (h:ac w g #[a,b,c,d,e,f] ty) (m t:ByteArray) (k n:Int) (r:ByteArray):ac (hdW w g m t k n r) g #[.string m,.string t,.int .i64 k,.int .i64 n,.string r,.slice none 0 0] ty:=
 (((((h.set 0 (.string m)).set 1 (.string t)).set 2 (.int .i64 k)).set 3 (.int .i64 n)).set 4 (.string r)).set 5 (.slice none 0 0)
theorem fW {w:World} {g B:Nat} {w0:World} (h:Below B w0 w) (hg:B<=g) (m t:ByteArray) (k n:Int) (r:ByteArray):Below B w0 (hdW w g m t k n r):=
 (((((h.setCell hg _).setCell hg _).setCell hg _).setCell hg _).setCell hg _).setCell hg _
theorem lQ {s:ByteArray} (h:(bv 32 0 s.data.toList).length≠2):da s=((⟨#[]⟩,⟨#[]⟩,0),3):=by
 unfold da;split
 ·rename_i a b e;rw[e] at h;exact absurd rfl h
 ·rfl
theorem nc {s:ByteArray} {a b:Nat} (h:bv 32 0 s.data.toList=[a,b]):da s =
 if dV (s.extract 0 a).data.toList=false then ((⟨#[]⟩,⟨#[]⟩,0),6)
 else if gj (s.extract (a+1) b).data.toList=false then ((⟨#[]⟩,⟨#[]⟩,0),11)
 else if (aH (s.extract (b+1) s.size)).2≠0 then ((⟨#[]⟩,⟨#[]⟩,0),(aH (s.extract (b+1) s.size)).2)
 else ((s.extract 0 a,s.extract (a+1) b,(aH (s.extract (b+1) s.size)).1),0):=by
 unfold da;rw[h]
end Go.Proofs.YthjbodpeckebiaaGreatDoor
-- Req
namespace Go.Proofs.YthjbodpeckebiaaGreatDoor
open Go.RowKit
structure dd (w0 wr:World) (B:Nat) (M T V:ByteArray) (k e:Int):Prop where
 z:ac wr B qQ 44
 v:ac wr (B+1) #[.string M,.string T,.string V] 9
 h:ac wr (B+2) #[.string M,.string T,.int .i64 k,.int .i64 0,.string ⟨#[]⟩,.slice none 0 0] 44
 x:ac wr (B+3) #[.int .i64 e] 29
 below:Below B w0 wr
section
variable {w0 wr w':World} {B:Nat} {M T V:ByteArray} {k e:Int}
theorem dd.call (h:dd w0 wr B M T V k e) (hb:Below wr.heap.size wr w'):dd w0 w' B M T V k e:=
 ⟨h.z.call hb,h.v.call hb,h.h.call hb,h.x.call hb,h.below.trans (hb.mono (by have:=h.x.lt;omega))⟩
theorem dd.set (h:dd w0 wr B M T V k e) (y:Int):dd w0 (wr.setCell ⟨B+3,0,none⟩ (.int .i64 y)) B M T V k y:=
 ⟨h.z.far (by simp) _,h.v.far (by simp) _,h.h.far (by simp) _,h.x.set 0 _,h.below.setCell (by simp) _⟩
theorem dd.minor (h:dd w0 wr B M T V k e) (y:Int):dd w0 (wr.setCell ⟨B+2,2,none⟩ (.int .i64 y)) B M T V y e:=
 ⟨h.z.far (by simp) _,h.v.far (by simp) _,h.h.set 2 _,h.x.far (by simp) _,h.below.setCell (by simp) _⟩
theorem dd.m0 (h:dd w0 wr B M T V k e):wr.cell? ⟨B+2,0,none⟩=some (.string M):=h.h.cell 0
theorem dd.m1 (h:dd w0 wr B M T V k e):wr.cell? ⟨B+2,1,none⟩=some (.string T):=h.h.cell 1
theorem dd.v2 (h:dd w0 wr B M T V k e):wr.cell? ⟨B+1,2,none⟩=some (.string V):=h.v.cell 2
theorem dd.x0 (h:dd w0 wr B M T V k e):wr.cell? ⟨B+3,0,none⟩=some (.int .i64 e):=h.x.cell 0
end
theorem s4 {w W2:World} {M T V:ByteArray} (hK:ac W2 w.heap.size qQ 44) (hV:ac W2 (w.heap.size+1) #[.string M,.string T,.string V] 9) (hL:Below w.heap.size w W2) (hz:W2.heap.size=w.heap.size+2):
 dd w ((W2.alloc (.cells #[.string M,.string T,.int .i64 0,.int .i64 0,.string ⟨#[]⟩,.slice none 0 0] 44)).alloc (.cells #[.int .i64 0] 29)).drew w.heap.size M T V 0 0:=
 ⟨((hK.alloc _).alloc _).drew,((hV.alloc _).alloc _).drew,((ac.new' (by omega)).alloc _).drew,(ac.new' (by simp;omega)).drew,((hL.alloc (by omega) _).alloc (by simp;omega) _).drew⟩
def cn (p:Bool) (x e:Int):Int:=if e=0/\p=false then x else e
theorem nB {w0 wr:World} {B:Nat} {M T V:ByteArray} {k e:Int} (h:Hid (dd w0 wr B M T V k e)) (p:Bool) (x:Int):
 Calls Tryz.prog 164 #[.bool p,.int .i64 x,.pointer (some ⟨B+3,0,none⟩)] wr fun r w'=>r=.returned (.tuple #[])/\Hid (dd w0 w' B M T V k (cn p x e)):=by
 have c0:=h.out.x0;have f0:wr.frozen? ⟨B+3,0,none⟩=false:=h.out.x.froz 0;by_cases he:e=0
 ·subst he
  cases p
  ·have HA:Hid (cn false x 0=x):=by show cn false x 0=x;unfold cn;rw[if_pos ⟨rfl,rfl⟩]
   go_enter Tryz.func164,Tryz.ntmps164
   go_wp2_with fail
   go_end0
   rw[HA.out];exact⟨rfl,h.out.set x⟩
  ·have HA:Hid (cn true x 0=0):=by show cn true x 0=0;unfold cn;rw[if_neg (by simp)]
   go_enter Tryz.func164,Tryz.ntmps164
   go_wp2_with fail
   go_end0
   rw[HA.out];exact⟨rfl,h⟩
 ·have HA:Hid (cn p x e=e):=by show cn p x e=e;unfold cn;rw[if_neg (fun h=>he h.1)]
  have hb:(e==0)=false:=by rw[tT];exact he
  go_enter Tryz.func164,Tryz.ntmps164
  go_wp2_with fail
  go_end0
  rw[HA.out];exact⟨rfl,h⟩
theorem gB {s:ByteArray} {a b:Nat} (h:bv 32 0 s.data.toList=[a,b]) (hs:s.size<=100000) {mx:Int} (w:World) (hm:w.cell? ⟨0,0,none⟩=some (.int .i64 mx)):
 Calls Tryz.prog 163 #[.string s,.string ⟨#[32]⟩] w fun e w'=>e=.returned (.slice (some ⟨w.heap.size,0,none⟩) 3 3)/\w'=w.alloc (.cells #[.string (s.extract 0 a),.string (s.extract (a+1) b),.string (s.extract (b+1) s.size)] 9):=by
 have hc:Lib.countB s rA=2:=by rw[jz,h];rfl
 have h1:=Tryz.strings_Split s rA mx w (by omega) hm (by decide);rw[hc,(pW h).2.2] at h1;exact h1
theorem lW {s:ByteArray} (h:(bv 32 0 s.data.toList).length≠2) (hs:s.size<=100000) {mx:Int} (w:World) (hm:w.cell? ⟨0,0,none⟩=some (.int .i64 mx)):
 Calls Tryz.prog 163 #[.string s,.string ⟨#[32]⟩] w fun e w'=>∃n:Nat,n≠3/\n<=100001/\∃cs,e=.returned (.slice (some ⟨w.heap.size,0,none⟩) n n)/\w'=w.alloc (.cells cs 9):=by
 have h1:=Tryz.strings_Split s rA mx w (by omega) hm (by decide);refine h1.mono ?_;rintro e w' ⟨h2,h3⟩;refine⟨Lib.countB s rA+1,?_,?_,_,h2,h3⟩
 ·rw[jz];omega
 ·have:=Lib.countB_le rA (by decide) s.size s (nR _);omega
theorem reqE {s:ByteArray} {a b:Nat} (h:bv 32 0 s.data.toList=[a,b]) {k f:Int} (hv:aH (s.extract (b+1) s.size)=(k,f)):
 da s=if cn (f==0) f (cn (gj (s.extract (a+1) b).data.toList) 11 (cn (dV (s.extract 0 a).data.toList) 6 0))=0 then ((s.extract 0 a,s.extract (a+1) b,k),0)
  else ((⟨#[]⟩,⟨#[]⟩,0),cn (f==0) f (cn (gj (s.extract (a+1) b).data.toList) 11 (cn (dV (s.extract 0 a).data.toList) 6 0))):=by
 rw[nc h,hv];cases dV (s.extract 0 a).data.toList<;>cases gj (s.extract (a+1) b).data.toList<;>by_cases hf:f=0<;>simp[cn,hf]
theorem jg (s:ByteArray) (hs:s.size<=100000) (h:(bv 32 0 s.data.toList).length≠2) {mx:Int} (w:World) (hm:w.cell? ⟨0,0,none⟩=some (.int .i64 mx)):
 Calls Tryz.prog 137 #[.string s] w fun o w'=>o=.returned (.tuple #[.agg #[.string ⟨#[]⟩,.string ⟨#[]⟩,.int .i64 0,.int .i64 0,.string ⟨#[]⟩,.slice none 0 0],.int .i64 3])/\Below w.heap.size w w':=by
 have hm1:(w.alloc (.cells qQ 44)).cell? ⟨0,0,none⟩=some (.int .i64 mx):=by
  rw[World.cell?_alloc_old _ _ _ (Nat.ne_of_lt (t8 _ _ hm))];exact hm
 have HC:=lH (lW h hs (w.alloc (.cells qQ 44)) hm1);clear h hs hm hm1;go_enter Tryz.func137,Tryz.ntmps137
 go_wp2_with (go_at_call 163;refine HC.out.mono ?_;rintro e' W2 ⟨n,hn3,hn1,cs,rfl,hw⟩;have n3:((n:Int)==3)=false:=(by rw[tT];omega);have n4:((n:Int) != 3)=true:=(by rw[uI];omega);have HK:Hid (ac W2 w.heap.size qQ 44):=(by show ac _ _ _ _;rw[hw];exact(ac.new _ _ _).alloc _);have HL:Hid (Below w.heap.size w W2):=(by show Below _ _ _;rw[hw];exact((tU _ _).alloc (nR _) _).alloc (by simp) _);clear hw hn3;have c0:W2.cell? ⟨w.heap.size,0,none⟩=some (.string ⟨#[]⟩):=HK.out.cell 0;have f0:W2.frozen? ⟨w.heap.size,0,none⟩=false:=HK.out.froz 0;have c1:W2.cell? ⟨w.heap.size,1,none⟩=some (.string ⟨#[]⟩):=HK.out.cell 1;have f1:W2.frozen? ⟨w.heap.size,1,none⟩=false:=HK.out.froz 1;have c2:W2.cell? ⟨w.heap.size,2,none⟩=some (.int .i64 0):=HK.out.cell 2;have f2:W2.frozen? ⟨w.heap.size,2,none⟩=false:=HK.out.froz 2;have c3:W2.cell? ⟨w.heap.size,3,none⟩=some (.int .i64 0):=HK.out.cell 3;have f3:W2.frozen? ⟨w.heap.size,3,none⟩=false:=HK.out.froz 3;have c4:W2.cell? ⟨w.heap.size,4,none⟩=some (.string ⟨#[]⟩):=HK.out.cell 4;have f4:W2.frozen? ⟨w.heap.size,4,none⟩=false:=HK.out.froz 4;have c5:W2.cell? ⟨w.heap.size,5,none⟩=some (.slice none 0 0):=HK.out.cell 5;have f5:W2.frozen? ⟨w.heap.size,5,none⟩=false:=HK.out.froz 5)
 have q:=kn (w:=W2) HK.out (⟨#[]⟩) (⟨#[]⟩) (0) 0 ⟨#[]⟩;have u:=fW (w:=W2) HL.out (nR _) (⟨#[]⟩) (⟨#[]⟩) (0) 0 ⟨#[]⟩;obtain⟨Wf,hWf⟩:∃Wf,Wf=hdW (W2) w.heap.size (⟨#[]⟩) (⟨#[]⟩) (0) 0 ⟨#[]⟩:=⟨_,rfl⟩;rw[<-hWf] at q u;have hWf':((((((W2).setCell ⟨w.heap.size,0,none⟩ (.string (⟨#[]⟩))).setCell ⟨w.heap.size,1,none⟩ (.string (⟨#[]⟩))).setCell ⟨w.heap.size,2,none⟩ (.int .i64 (0))).setCell ⟨w.heap.size,3,none⟩ (.int .i64 0)).setCell ⟨w.heap.size,4,none⟩ (.string ⟨#[]⟩)).setCell ⟨w.heap.size,5,none⟩ (.slice none 0 0)=Wf:=hWf.symm;rw[hWf'];obtain⟨q0,q1,q2,q3,q4,q5⟩:=bc6 q 0 1 2 3 4 5;simp only[List.getElem?_toArray,List.getElem?_cons_zero,uO] at q0 q1 q2 q3 q4 q5;exact ub (v:=.tuple #[.agg #[.string (⟨#[]⟩),.string (⟨#[]⟩),.int .i64 (0),.int .i64 0,.string ⟨#[]⟩,.slice none 0 0],.int .i64 (3)]) (by simp[results,Tryz.results137,go_sem,q0,q1,q2,q3,q4,q5]) rfl ⟨rfl,u⟩
theorem lT (s:ByteArray) (hs:s.size<=100000) {a b:Nat} (h:bv 32 0 s.data.toList=[a,b]) {M T V:ByteArray} (hM:M=s.extract 0 a) (hT:T=s.extract (a+1) b) (hV:V=s.extract (b+1) s.size) {k f e1 e2 e3:Int} {p1 p2:Bool} (hk:aH V=(k,f)) (hp1:dV M.data.toList=p1) (hp2:gj T.data.toList=p2)
 (he1:cn p1 6 0=e1) (he2:cn p2 11 e1=e2) (he3:cn (f==0) f e2=e3) (hz:e3≠0) {mx:Int} (w:World) (hm:w.cell? ⟨0,0,none⟩=some (.int .i64 mx)):
 Calls Tryz.prog 137 #[.string s] w fun o w'=>o=.returned (.tuple #[.agg #[.string ⟨#[]⟩,.string ⟨#[]⟩,.int .i64 0,.int .i64 0,.string ⟨#[]⟩,.slice none 0 0],.int .i64 e3])/\Below w.heap.size w w':=by
 have hm1:(w.alloc (.cells qQ 44)).cell? ⟨0,0,none⟩=some (.int .i64 mx):=by
  rw[World.cell?_alloc_old _ _ _ (Nat.ne_of_lt (t8 _ _ hm))];exact hm
 have HC:=gB h hs (w.alloc (.cells qQ 44)) hm1;have hMs:M.size<=9223372036854775807:=by rw[hM];simp;omega
 have hTs:T.size<=9223372036854775807:=by rw[hT];simp;omega
 have hVs:V.size<=9223372036854775807:=by rw[hV];simp;omega
 rw[<-hM,<-hT,<-hV] at HC;have HC:=lH HC;have HT1:Hid (∀W:World,Calls Tryz.prog 165 #[.string M] W fun e w'=>e=.returned (.bool p1)/\Below W.heap.size W w'):=fun W=>by subst hp1;exact dp M hMs W
 have HT2:Hid (∀W:World,Calls Tryz.prog 166 #[.string T] W fun e w'=>e=.returned (.bool p2)/\Below W.heap.size W w'):=fun W=>by subst hp2;exact gG T hTs W
 have HT3:Hid (∀W:World,Calls Tryz.prog 167 #[.string V] W fun r w'=>r=.returned (.tuple #[.int .i64 k,.int .i64 f])/\W=w'):=fun W=>fY V hVs hk W;have HE1:=lH he1;have HE2:=lH he2;have HE3:=lH he3;have n0:(e3==0)=false:=by rw[tT];exact hz
 have n1:(e3 != 0)=true:=by rw[uI];exact hz
 clear h hs hm hm1 hM hT hV hMs hTs hVs hk hp1 hp2 he1 he2 he3 hz;go_enter Tryz.func137,Tryz.ntmps137
 go_wp2_with (go_at_call 163;refine HC.out.mono ?_;rintro e' W2 ⟨rfl,hw⟩;have HK:Hid (ac W2 w.heap.size qQ 44):=(by show ac _ _ _ _;rw[hw];exact(ac.new _ _ _).alloc _);have HV:Hid (ac W2 (w.heap.size+1) #[.string M,.string T,.string V] 9):=(by show ac _ _ _ _;rw[hw];exact ac.new' (by simp));have HL:Hid (Below w.heap.size w W2):=(by show Below _ _ _;rw[hw];exact((tU _ _).alloc (nR _) _).alloc (by simp) _);have hwz:W2.heap.size=w.heap.size+2:=(by rw[hw];simp);clear hw;have v0:W2.cell? ⟨w.heap.size+1,0,none⟩=some (.string M):=HV.out.cell 0;have v1:W2.cell? ⟨w.heap.size+1,1,none⟩=some (.string T):=HV.out.cell 1)
 go_region
 go_wp2_with (first
  | (go_at_call 165;refine(HT1.out _).mono ?_;rintro e' w3 ⟨rfl,hb⟩;have HI:=lH ((s4 HK.out HV.out HL.out hwz).call hb);clear hb)
  | (go_at_call 166;refine(HT2.out _).mono ?_;rintro e' w3 ⟨rfl,hb⟩;have HI:=lH (HI.out.call hb);clear hb)
  | (go_at_call 167;refine(HT3.out _).mono ?_;rintro e' w3 ⟨rfl,rfl⟩)
  | (go_at_call 164;refine(nB (by assumption) _ _).mono ?_;rintro e' w4 ⟨rfl,hI⟩;(try rw[HE1.out] at hI);(try rw[HE2.out] at hI);(try rw[HE3.out] at hI);have HI:=lH hI.out;clear hI;have y1:=HI.out.m1;have y2:=HI.out.v2;have y3:=HI.out.x0;have y4:w4.cell? ⟨w.heap.size+2,2,none⟩=some (.int .i64 0):=HI.out.h.cell 2;have y5:w4.frozen? ⟨w.heap.size+2,2,none⟩=false:=HI.out.h.froz 2))
 obtain⟨W9,hW9⟩:∃W9,W9=w4.setCell ⟨w.heap.size+2,2,none⟩ (.int .i64 k):=⟨_,rfl⟩;have I9:=HI.out.minor k;rw[<-hW9] at I9;rw[<-hW9];have J9:=lH I9;clear I9 hW9;have c0:W9.cell? ⟨w.heap.size,0,none⟩=some (.string ⟨#[]⟩):=J9.out.z.cell 0;have f0:W9.frozen? ⟨w.heap.size,0,none⟩=false:=J9.out.z.froz 0;have c1:W9.cell? ⟨w.heap.size,1,none⟩=some (.string ⟨#[]⟩):=J9.out.z.cell 1;have f1:W9.frozen? ⟨w.heap.size,1,none⟩=false:=J9.out.z.froz 1;have c2:W9.cell? ⟨w.heap.size,2,none⟩=some (.int .i64 0):=J9.out.z.cell 2;have f2:W9.frozen? ⟨w.heap.size,2,none⟩=false:=J9.out.z.froz 2;have c3:W9.cell? ⟨w.heap.size,3,none⟩=some (.int .i64 0):=J9.out.z.cell 3;have f3:W9.frozen? ⟨w.heap.size,3,none⟩=false:=J9.out.z.froz 3;have c4:W9.cell? ⟨w.heap.size,4,none⟩=some (.string ⟨#[]⟩):=J9.out.z.cell 4;have f4:W9.frozen? ⟨w.heap.size,4,none⟩=false:=J9.out.z.froz 4;have c5:W9.cell? ⟨w.heap.size,5,none⟩=some (.slice none 0 0):=J9.out.z.cell 5;have f5:W9.frozen? ⟨w.heap.size,5,none⟩=false:=J9.out.z.froz 5;have x0:=J9.out.x0;have h0:W9.cell? ⟨w.heap.size+2,0,none⟩=some (.string M):=J9.out.h.cell 0;have h1:W9.cell? ⟨w.heap.size+2,1,none⟩=some (.string T):=J9.out.h.cell 1;have h2:W9.cell? ⟨w.heap.size+2,2,none⟩=some (.int .i64 k):=J9.out.h.cell 2;have h3:W9.cell? ⟨w.heap.size+2,3,none⟩=some (.int .i64 0):=J9.out.h.cell 3;have h4:W9.cell? ⟨w.heap.size+2,4,none⟩=some (.string ⟨#[]⟩):=J9.out.h.cell 4
 have h5:W9.cell? ⟨w.heap.size+2,5,none⟩=some (.slice none 0 0):=J9.out.h.cell 5;go_region
 clear c0 f0 c1 f1 c2 f2 c3 f3 c4 f4 c5 f5;have c:=J9.out;have q:=kn (w:=W9) c.z (⟨#[]⟩) (⟨#[]⟩) (0) 0 ⟨#[]⟩;have u:=fW (w:=W9) c.below (nR _) (⟨#[]⟩) (⟨#[]⟩) (0) 0 ⟨#[]⟩;obtain⟨Wf,hWf⟩:∃Wf,Wf=hdW (W9) w.heap.size (⟨#[]⟩) (⟨#[]⟩) (0) 0 ⟨#[]⟩:=⟨_,rfl⟩;rw[<-hWf] at q u;have hWf':((((((W9).setCell ⟨w.heap.size,0,none⟩ (.string (⟨#[]⟩))).setCell ⟨w.heap.size,1,none⟩ (.string (⟨#[]⟩))).setCell ⟨w.heap.size,2,none⟩ (.int .i64 (0))).setCell ⟨w.heap.size,3,none⟩ (.int .i64 0)).setCell ⟨w.heap.size,4,none⟩ (.string ⟨#[]⟩)).setCell ⟨w.heap.size,5,none⟩ (.slice none 0 0)=Wf:=hWf.symm;rw[hWf'];go_wp2_with fail
 obtain⟨q0,q1,q2,q3,q4,q5⟩:=bc6 q 0 1 2 3 4 5;simp only[List.getElem?_toArray,List.getElem?_cons_zero,uO] at q0 q1 q2 q3 q4 q5;exact ub (v:=.tuple #[.agg #[.string (⟨#[]⟩),.string (⟨#[]⟩),.int .i64 (0),.int .i64 0,.string ⟨#[]⟩,.slice none 0 0],.int .i64 (e3)]) (by simp[results,Tryz.results137,go_sem,q0,q1,q2,q3,q4,q5]) rfl ⟨rfl,u.drew⟩
theorem kB (s:ByteArray) (hs:s.size<=100000) {a b:Nat} (h:bv 32 0 s.data.toList=[a,b]) {M T V:ByteArray} (hM:M=s.extract 0 a) (hT:T=s.extract (a+1) b) (hV:V=s.extract (b+1) s.size) {k f e1 e2 e3:Int} {p1 p2:Bool} (hk:aH V=(k,f)) (hp1:dV M.data.toList=p1) (hp2:gj T.data.toList=p2)
 (he1:cn p1 6 0=e1) (he2:cn p2 11 e1=e2) (he3:cn (f==0) f e2=e3) (hz:e3=0) {mx:Int} (w:World) (hm:w.cell? ⟨0,0,none⟩=some (.int .i64 mx)):
 Calls Tryz.prog 137 #[.string s] w fun o w'=>o=.returned (.tuple #[.agg #[.string M,.string T,.int .i64 k,.int .i64 0,.string ⟨#[]⟩,.slice none 0 0],.int .i64 e3])/\Below w.heap.size w w':=by
 have hm1:(w.alloc (.cells qQ 44)).cell? ⟨0,0,none⟩=some (.int .i64 mx):=by
  rw[World.cell?_alloc_old _ _ _ (Nat.ne_of_lt (t8 _ _ hm))];exact hm
 have HC:=gB h hs (w.alloc (.cells qQ 44)) hm1;have hMs:M.size<=9223372036854775807:=by rw[hM];simp;omega
 have hTs:T.size<=9223372036854775807:=by rw[hT];simp;omega
 have hVs:V.size<=9223372036854775807:=by rw[hV];simp;omega
 rw[<-hM,<-hT,<-hV] at HC;have HC:=lH HC;have HT1:Hid (∀W:World,Calls Tryz.prog 165 #[.string M] W fun e w'=>e=.returned (.bool p1)/\Below W.heap.size W w'):=fun W=>by subst hp1;exact dp M hMs W
 have HT2:Hid (∀W:World,Calls Tryz.prog 166 #[.string T] W fun e w'=>e=.returned (.bool p2)/\Below W.heap.size W w'):=fun W=>by subst hp2;exact gG T hTs W
 have HT3:Hid (∀W:World,Calls Tryz.prog 167 #[.string V] W fun r w'=>r=.returned (.tuple #[.int .i64 k,.int .i64 f])/\W=w'):=fun W=>fY V hVs hk W;have HE1:=lH he1;have HE2:=lH he2;have HE3:=lH he3;subst hz;skip
 clear h hs hm hm1 hM hT hV hMs hTs hVs hk hp1 hp2 he1 he2 he3;go_enter Tryz.func137,Tryz.ntmps137
 go_wp2_with (go_at_call 163;refine HC.out.mono ?_;rintro e' W2 ⟨rfl,hw⟩;have HK:Hid (ac W2 w.heap.size qQ 44):=(by show ac _ _ _ _;rw[hw];exact(ac.new _ _ _).alloc _);have HV:Hid (ac W2 (w.heap.size+1) #[.string M,.string T,.string V] 9):=(by show ac _ _ _ _;rw[hw];exact ac.new' (by simp));have HL:Hid (Below w.heap.size w W2):=(by show Below _ _ _;rw[hw];exact((tU _ _).alloc (nR _) _).alloc (by simp) _);have hwz:W2.heap.size=w.heap.size+2:=(by rw[hw];simp);clear hw;have v0:W2.cell? ⟨w.heap.size+1,0,none⟩=some (.string M):=HV.out.cell 0;have v1:W2.cell? ⟨w.heap.size+1,1,none⟩=some (.string T):=HV.out.cell 1)
 go_region
 go_wp2_with (first
  | (go_at_call 165;refine(HT1.out _).mono ?_;rintro e' w3 ⟨rfl,hb⟩;have HI:=lH ((s4 HK.out HV.out HL.out hwz).call hb);clear hb)
  | (go_at_call 166;refine(HT2.out _).mono ?_;rintro e' w3 ⟨rfl,hb⟩;have HI:=lH (HI.out.call hb);clear hb)
  | (go_at_call 167;refine(HT3.out _).mono ?_;rintro e' w3 ⟨rfl,rfl⟩)
  | (go_at_call 164;refine(nB (by assumption) _ _).mono ?_;rintro e' w4 ⟨rfl,hI⟩;(try rw[HE1.out] at hI);(try rw[HE2.out] at hI);(try rw[HE3.out] at hI);have HI:=lH hI.out;clear hI;have y1:=HI.out.m1;have y2:=HI.out.v2;have y3:=HI.out.x0;have y4:w4.cell? ⟨w.heap.size+2,2,none⟩=some (.int .i64 0):=HI.out.h.cell 2;have y5:w4.frozen? ⟨w.heap.size+2,2,none⟩=false:=HI.out.h.froz 2))
 obtain⟨W9,hW9⟩:∃W9,W9=w4.setCell ⟨w.heap.size+2,2,none⟩ (.int .i64 k):=⟨_,rfl⟩;have I9:=HI.out.minor k;rw[<-hW9] at I9;rw[<-hW9];have J9:=lH I9;clear I9 hW9;have c0:W9.cell? ⟨w.heap.size,0,none⟩=some (.string ⟨#[]⟩):=J9.out.z.cell 0;have f0:W9.frozen? ⟨w.heap.size,0,none⟩=false:=J9.out.z.froz 0;have c1:W9.cell? ⟨w.heap.size,1,none⟩=some (.string ⟨#[]⟩):=J9.out.z.cell 1;have f1:W9.frozen? ⟨w.heap.size,1,none⟩=false:=J9.out.z.froz 1;have c2:W9.cell? ⟨w.heap.size,2,none⟩=some (.int .i64 0):=J9.out.z.cell 2;have f2:W9.frozen? ⟨w.heap.size,2,none⟩=false:=J9.out.z.froz 2;have c3:W9.cell? ⟨w.heap.size,3,none⟩=some (.int .i64 0):=J9.out.z.cell 3;have f3:W9.frozen? ⟨w.heap.size,3,none⟩=false:=J9.out.z.froz 3;have c4:W9.cell? ⟨w.heap.size,4,none⟩=some (.string ⟨#[]⟩):=J9.out.z.cell 4;have f4:W9.frozen? ⟨w.heap.size,4,none⟩=false:=J9.out.z.froz 4;have c5:W9.cell? ⟨w.heap.size,5,none⟩=some (.slice none 0 0):=J9.out.z.cell 5;have f5:W9.frozen? ⟨w.heap.size,5,none⟩=false:=J9.out.z.froz 5;have x0:=J9.out.x0;have h0:W9.cell? ⟨w.heap.size+2,0,none⟩=some (.string M):=J9.out.h.cell 0;have h1:W9.cell? ⟨w.heap.size+2,1,none⟩=some (.string T):=J9.out.h.cell 1;have h2:W9.cell? ⟨w.heap.size+2,2,none⟩=some (.int .i64 k):=J9.out.h.cell 2;have h3:W9.cell? ⟨w.heap.size+2,3,none⟩=some (.int .i64 0):=J9.out.h.cell 3;have h4:W9.cell? ⟨w.heap.size+2,4,none⟩=some (.string ⟨#[]⟩):=J9.out.h.cell 4
 have h5:W9.cell? ⟨w.heap.size+2,5,none⟩=some (.slice none 0 0):=J9.out.h.cell 5;go_region
 clear c0 f0 c1 f1 c2 f2 c3 f3 c4 f4 c5 f5;have c:=J9.out;have q:=kn (w:=W9) c.z (M) (T) (k) 0 ⟨#[]⟩;have u:=fW (w:=W9) c.below (nR _) (M) (T) (k) 0 ⟨#[]⟩;obtain⟨Wf,hWf⟩:∃Wf,Wf=hdW (W9) w.heap.size (M) (T) (k) 0 ⟨#[]⟩:=⟨_,rfl⟩;rw[<-hWf] at q u;have hWf':((((((W9).setCell ⟨w.heap.size,0,none⟩ (.string (M))).setCell ⟨w.heap.size,1,none⟩ (.string (T))).setCell ⟨w.heap.size,2,none⟩ (.int .i64 (k))).setCell ⟨w.heap.size,3,none⟩ (.int .i64 0)).setCell ⟨w.heap.size,4,none⟩ (.string ⟨#[]⟩)).setCell ⟨w.heap.size,5,none⟩ (.slice none 0 0)=Wf:=hWf.symm;rw[hWf'];go_wp2_with fail
 obtain⟨q0,q1,q2,q3,q4,q5⟩:=bc6 q 0 1 2 3 4 5;simp only[List.getElem?_toArray,List.getElem?_cons_zero,uO] at q0 q1 q2 q3 q4 q5;exact ub (v:=.tuple #[.agg #[.string (M),.string (T),.int .i64 (k),.int .i64 0,.string ⟨#[]⟩,.slice none 0 0],.int .i64 (0)]) (by simp[results,Tryz.results137,go_sem,q0,q1,q2,q3,q4,q5]) rfl ⟨rfl,u.drew⟩
end Go.Proofs.YthjbodpeckebiaaGreatDoor
/- Texts packed for one claim, 14 of 52: ReqPlain ReqR Req. -/
import Derived.Test.YthjbodpeckebiaaGreatDoorMrsQ4
import Derived.Test.YthjbodpeckebiaaGreatDoorMrsQ3
import Derived.Lib.SplitLaws
import Derived.Test.YthjbodpeckebiaaGreatDoorMrsShelf
set_option maxRecDepth 100000
set_option maxHeartbeats 16000000
set_option linter.unusedSimpArgs false
set_option linter.unusedVariables false
-- ReqPlain
namespace Go.Proofs.YthjbodpeckebiaaGreatDoor
open Go.RowKit
def cj (c:UInt8):Nat->List UInt8->List Nat
 | _,[]=>[]
 | o,b :: l=>if b=c then o :: cj c (o+1) l else cj c (o+1) l
theorem cd (c:UInt8) (o:Nat) (l:List UInt8):cj c o (c :: l)=o :: cj c (o+1) l:=by rw[cj,if_pos rfl]
theorem cn {b c:UInt8} (h:b≠c) (o:Nat) (l:List UInt8):cj c o (b :: l)=cj c (o+1) l:=by rw[cj,if_neg h]
theorem fU (c:UInt8):∀(l:List UInt8) (o:Nat) (m:List UInt8),cj c o (l++m)=cj c o l++cj c (o+l.length) m
 | [],o,m=>by simp[cj]
 | b :: l,o,m=>by
   by_cases h:b=c
   ·subst h
    rw[F3,cd,cd,fU b l (o+1) m,EQ,F3,Gg,GI 1]
   ·rw[F3,cn h,cn h,fU c l (o+1) m,EQ,Gg,GI 1]
theorem gh (c:UInt8):∀(l:List UInt8) (o:Nat),(cj c o l).length=l.count c
 | [],_=>rfl
 | b :: l,o=>by
   by_cases h:b=c
   ·subst h;rw[cd,EQ,List.count_cons_self,gh b l]
   ·rw[cn h,List.count_cons_of_ne (by simpa using h),gh c l]
theorem kF (c:UInt8):∀(l:List UInt8) (o k:Nat),k∈cj c o l->o<=k/\k<o+l.length/\l[k - o]? = some c
 | [],_,_,h=>by simp[cj] at h
 | b :: l,o,k,h=>by
   by_cases hb:b=c
   ·subst hb
    rw[cd,GT] at h;rcases h with rfl|h
    ·simp
    ·have h1:=kF b l (o+1) k h
     refine⟨by omega,by simp only[EQ];omega,?_⟩;rw[show k - o=(k - (o+1))+1 by omega,FW];exact h1.2.2
   ·rw[cn hb] at h
    have h1:=kF c l (o+1) k h;refine⟨by omega,by simp only[EQ];omega,?_⟩;rw[show k - o=(k - (o+1))+1 by omega,FW];exact h1.2.2
theorem kw {c:UInt8}:∀{l:List UInt8} {o k:Nat} {r:List Nat},cj c o l=k :: r->o<=k/\(∀j,o+j<k->l[j]?≠some c)/\l[k - o]? = some c/\r=cj c (k+1) (l.drop (k - o+1))
 | [],_,_,_,h=>by simp[cj] at h
 | b :: l,o,k,r,h=>by
   by_cases hb:b=c
   ·subst hb
    rw[cd] at h;obtain⟨rfl,rfl⟩:=List.cons.inj h;exact⟨nR _,fun j hj=>by omega,by simp,by simp⟩
   ·rw[cn hb] at h
    obtain⟨h1,h2,h3,h4⟩:=kw h;refine⟨by omega,fun j hj=>?_,?_,?_⟩
    ·cases j with
     | zero=>simpa using hb
     | succ j=>rw[FW];exact h2 j (by omega)
    ·rw[show k - o=(k - (o+1))+1 by omega,FW];exact h3
    ·rw[h4,show k - o+1=(k - (o+1)+1)+1 by omega,Fz]
theorem xc (l:List UInt8) (c:UInt8) (j:Nat):Lib.occAt l [c] j=true↔l[j]? = some c:=by
 unfold Lib.occAt;rcases FM j l.length with h|h
 ·rw[Fa h,EM h]
  simp only[List.isPrefixOf,Bool.and_true,FA,Option.some.injEq];exact⟨Eq.symm,Eq.symm⟩
 ·rw[List.drop_eq_nil_of_le h,FO h]
  simp[List.isPrefixOf]
theorem pR {c:UInt8} {l:List UInt8} {k:Nat} {r:List Nat} (h:cj c 0 l=k :: r):Lib.index l [c]=k:=by
 obtain⟨_,h2,h3,_⟩:=kw h;rw[Nat.sub_zero] at h3;refine Lib.index_first ?_ ((xc l c k).2 h3) fun j hj=>?_
 ·rcases FM k l.length with h|h
  ·omega
  ·rw[FO h] at h3;cases h3
 ·rw[Bool.eq_false_iff]
  exact fun h5=>h2 j (by omega) ((xc l c j).1 h5)
theorem j8 (c:UInt8):∀(l:List UInt8) (o d:Nat),cj c (o+d) l=(cj c o l).map (·+d)
 | [],_,_=>rfl
 | b :: l,o,d=>by
   by_cases h:b=c
   ·subst h;rw[cd,cd,List.map_cons,show o+d+1=(o+1)+d by omega,j8 b l]
   ·rw[cn h,cn h,show o+d+1=(o+1)+d by omega,j8 c l]
def AP:ByteArray:=⟨#[32]⟩
theorem qP (s:ByteArray):Lib.countB s AP=(cj 32 0 s.data.toList).length:=by
 rw[gh];exact Lib.count_one 32 _
theorem lA {s:ByteArray} {a b:Nat} (h:cj 32 0 s.data.toList=[a,b]):a<b/\b<s.size/\Lib.splitB AP 0 2 s=[s.extract 0 a,s.extract (a+1) b,s.extract (b+1) s.size]:=by
 have h1:=pR h;obtain⟨_,_,ha3,ha4⟩:=kw h;rw[Nat.sub_zero] at ha3 ha4
 have hal:a<s.size:=by
  rcases FM a s.size with h|h
  ·exact h
  ·rw[FO (by simpa using h)] at ha3;cases ha3
 have hb:=kF 32 _ 0 b (by rw[h];simp);have hbl:b<s.size:=by have:=hb.2.1;simpa using this
 have hab:a<b:=by
  have:=kF 32 _ (a+1) b (by rw[<-ha4];simp);omega
 refine⟨hab,hbl,?_⟩
 have hd:(s.extract (a+1) s.size).data.toList=s.data.toList.drop (a+1):=by
  rw[Lib.extract_data,Fh (by rw[ES];simp)]
 have h2:cj 32 0 (s.extract (a+1) s.size).data.toList=[b - (a+1)]:=by
  have h3:=j8 32 (s.data.toList.drop (a+1)) 0 (a+1);rw[FQ,<-ha4] at h3;rw[hd];match hq:cj 32 0 (s.data.toList.drop (a+1)),h3 with
  | [x],h3=>simp only[List.map_cons,List.map_nil,List.cons.injEq] at h3;simp;omega
  | [],h3=>simp at h3
  | _ :: _ :: _,h3=>simp at h3
 have h3:=pR h2;rw[Lib.splitB_hit AP 0 1 s a h1,show (1:Nat)=0+1 from rfl,show s.extract (a+AP.size) s.size=s.extract (a+1) s.size from rfl,Lib.splitB_hit AP 0 0 _ (b - (a+1)) h3,Lib.splitB_zero];have hz:AP.size=1:=rfl;rw[hz,Nat.add_zero,Nat.add_zero];simp only[List.cons.injEq,and_true];refine⟨trivial,?_,?_⟩
 ·rw[ByteArray.extract_extract];congr 1;omega
 ·rw[ByteArray.extract_extract];simp;congr 1<;>omega
def eV (s:ByteArray):(ByteArray×ByteArray×Int)×Int:=
 match cj 32 0 s.data.toList with
 | [a,b]=>
   if dY (s.extract 0 a).data.toList=false then ((⟨#[]⟩,⟨#[]⟩,0),6)
   else if eT (s.extract (a+1) b).data.toList=false then ((⟨#[]⟩,⟨#[]⟩,0),11)
   else if (bw (s.extract (b+1) s.size)).2≠0 then ((⟨#[]⟩,⟨#[]⟩,0),(bw (s.extract (b+1) s.size)).2)
   else ((s.extract 0 a,s.extract (a+1) b,(bw (s.extract (b+1) s.size)).1),0)
 | _=>((⟨#[]⟩,⟨#[]⟩,0),3)
end Go.Proofs.YthjbodpeckebiaaGreatDoor
-- ReqR
namespace Go.Proofs.YthjbodpeckebiaaGreatDoor
open Go.RowKit
theorem AU:(Tryz.prog.info? 3).map (fun i=>(i.zero,i.size,i.bytes))=some (some (.int .i64 0),1,8):=by kernel_rfl
theorem aY {P:Program} {id:Nat} {Q:Exit->Act->World->Prop} {a:Act} {w:World} {l:List Oper} (hm:P.follows .mixedOrders=true) (hB:Region.lexB .any l.toArray=true)
 (h:wpQuiet P l.toArray (fun w'=>∃n,w'=w.drewN n) (fun a'=>∀w',(∃n,w'=w.drewN n)->Q .normal a' w') l a):(Code.region id l.toArray true).wp P Q a w:=
 wp_region_quiet (C:=fun w'=>∃n,w'=w.drewN n) hm hB ⟨1,rfl⟩ (by simpa using h)
def xU:Array Value:=#[.string ⟨#[]⟩,.string ⟨#[]⟩,.int .i64 0,.int .i64 0,.string ⟨#[]⟩,.slice none 0 0]
def BS (w:World) (g:Nat) (m t:ByteArray) (k n:Int) (r:ByteArray):World:=(((((w.setCell ⟨g,0,none⟩ (.string m)).setCell ⟨g,1,none⟩ (.string t)).setCell ⟨g,2,none⟩ (.int .i64 k)).setCell ⟨g,3,none⟩ (.int .i64 n)).setCell ⟨g,4,none⟩ (.string r)).setCell ⟨g,5,none⟩ (.slice none 0 0)
theorem gi {w:World} {g:Nat} {ty:TypeId} {a b c d e f:Value} (h:af w g #[a,b,c,d,e,f] ty) (m t:ByteArray) (k n:Int) (r:ByteArray):af (BS w g m t k n r) g #[.string m,.string t,.int .i64 k,.int .i64 n,.string r,.slice none 0 0] ty:=
 (((((h.set 0 (.string m)).set 1 (.string t)).set 2 (.int .i64 k)).set 3 (.int .i64 n)).set 4 (.string r)).set 5 (.slice none 0 0)
theorem dS {w:World} {g B:Nat} {w0:World} (h:Below B w0 w) (hg:B<=g) (m t:ByteArray) (k n:Int) (r:ByteArray):Below B w0 (BS w g m t k n r):=
 (((((h.setCell hg _).setCell hg _).setCell hg _).setCell hg _).setCell hg _).setCell hg _
def iD (l:List UInt8):List Value:=(cj 32 0 l).map fun p:Nat=>Value.int .i64 (p:Int)
theorem gg (l:List UInt8):(iD l).length=(cj 32 0 l).length:=by unfold iD;simp
theorem Bt (s:ByteArray) (k:Nat) (h:k<s.size) (hb:s[k]=32):iD (s.data.toList.take (k+1))=iD (s.data.toList.take k)++[.int .i64 (k:Int)]:=by
 unfold iD;rw[eI s k h,fU,Fo,hb];rw[show (s.data.toList.take k).length=k by simp;omega,FQ,cd];rfl
theorem za (s:ByteArray) (k:Nat) (h:k<s.size) (hb:s[k]≠32):iD (s.data.toList.take (k+1))=iD (s.data.toList.take k):=by
 unfold iD;rw[eI s k h,fU,Fo,cn hb];simp[cj]
theorem CX (l:List UInt8):(iD l).length<=l.length:=by rw[gg,gh];exact List.count_le_length
theorem yk {w w':World} {row:Option Nat} {g:Nat} {cs:Array Value} {t:TypeId} (h:af w g cs t) (hg:w.grownBy w' row) (hne:some g≠row):af w' g cs t:=(hg.block g h.lt hne).trans h
theorem C3 (s:ByteArray) (k:Nat) (h:k<s.size) (hb:bt s k=32):s[k]=32:=by
 rw[aA s k h] at hb;apply Fg.1;have:(32:UInt8).toNat=32:=rfl;omega
theorem vM (s:ByteArray) (k:Nat) (h:k<s.size) (hb:bt s k≠32):s[k]≠32:=by
 intro e;apply hb;rw[aA s k h,e];rfl
theorem mB {s:ByteArray} (h:(cj 32 0 s.data.toList).length≠2):eV s=((⟨#[]⟩,⟨#[]⟩,0),3):=by
 unfold eV;split
 ·rename_i a b e;rw[e] at h;exact absurd rfl h
 ·rfl
theorem nh {s:ByteArray} {a b:Nat} (h:cj 32 0 s.data.toList=[a,b]):eV s =
 if dY (s.extract 0 a).data.toList=false then ((⟨#[]⟩,⟨#[]⟩,0),6)
 else if eT (s.extract (a+1) b).data.toList=false then ((⟨#[]⟩,⟨#[]⟩,0),11)
 else if (bw (s.extract (b+1) s.size)).2≠0 then ((⟨#[]⟩,⟨#[]⟩,0),(bw (s.extract (b+1) s.size)).2)
 else ((s.extract 0 a,s.extract (a+1) b,(bw (s.extract (b+1) s.size)).1),0):=by
 unfold eV;rw[h]
theorem kG (s:ByteArray) (hs:s.size<=100000) {m t:ByteArray} {k e:Int} (hr:eV s=((m,t,k),e)) (w:World):
 Calls Tryz.prog 98 #[.string s] w fun o w'=>o=.returned (.tuple #[.agg #[.string m,.string t,.int .i64 k,.int .i64 0,.string ⟨#[]⟩,.slice none 0 0],.int .i64 e])/\Below w.heap.size w w':=by
 have HR:=lH hr;have HZ:=lH hs;obtain⟨i0,hi,hz0,hz1,hz2⟩:=info_parts AU;clear hr;go_enter Tryz.func98,Tryz.ntmps98
 go_wp2_with fail
 go_loopw [4,5] (fun v i wr=>∃(k:Nat) (vv:Value),vv=v/\k<=s.size/\i=.int .i64 k/\wr.ownsRow (w.heap.size+1) 3 1 v (iD (s.data.toList.take k)).length (iD (s.data.toList.take k))/\af wr w.heap.size xU 44/\Below w.heap.size w wr/\w.heap.size+1<=wr.heap.size) (fun _ i _=>s.size - (intOf i).toNat)
 case atStart=>
  refine⟨0,_,rfl,by omega,rfl,?_,(af.new _ _ _).alloc _,((EK _ _).alloc (nR _) _).alloc (by simp) _,by simp⟩;exact⟨rfl,.inr ⟨w.heap.size+1,0,#[],rfl,nR _,by rw[<-World.size_alloc w (.cells xU 44)];exact heap_alloc_new _ _,nR _,EN _,rfl,rfl⟩⟩
 case round=>
  obtain⟨k0,v,rfl,hk0,rfl,hown,hblk,hbel,hsz⟩:=hrel;have hsi:(s.size:Int)<=100000:=by have:=HZ.out;omega
  have HO:=lH hown;have HK:=lH hblk;have HL:=lH hbel;have HS:=lH hsz;have hle:=CX (s.data.toList.take k0);rw[Ge] at hle;have hle2:(iD (s.data.toList.take k0)).length<=100000:=by have:=HZ.out;omega
  clear hown hblk hbel hsz hle;by_cases hlt:k0<s.size
  ·have hki:(k0:Int)<s.size:=by omega
   obtain⟨b,hb⟩:∃b,b=bt s k0:=⟨_,rfl⟩;have hix:∀W:World,(Instr.index 9 (.string s) (.int .i64 k0)).run Tryz.prog W=.ok (.int .u8 b) W:=by rw[hb];exact aj s k0 hlt
   by_cases h32:b=32
   ·have hp:=Bt s k0 hlt (C3 s k0 hlt (hb▸h32))
    have HP:=lH hp;subst h32;clear hp hb hs;go_wp2_with (at_builtin;refine wpList_append_own _ rfl _ _ 47 rfl (w.heap.size+1) 3 i0 (.int .i64 0) 1 8 Tryz.underlying47 hi hz0 hz1 hz2 rfl (by decide) _ _ _ rfl (HO.out.alloc _) ⟨wr.heap.size,0,none⟩ 1 1 [.int .i64 (k0:Int)] rfl rfl ?c1 ?c2 ?c3 ?c4 ?c5 ?_)
    case c1=>
     intro j u hj;match j,hj with
     | 0,hj=>simp at hj;subst hj;simp[Addr.add]
    case c2=>intro u hu;simp at hu;subst hu;rfl
    case c3=>unfold maxLen;omega
    case c4=>omega
    case c5=>have:=HS.out;simp;omega
    ·intro v' w1 hown' hgrow _
     have HO':=lH hown';have HG:=lH hgrow;clear hown' hgrow;go_wp2_with fail
     go_roundw
     case rel=>
      have hlo:=(HO.out.alloc (.cells #[.int .i64 (k0:Int)] 3)).lt;refine⟨k0+1,_,rfl,by omega,by go_num,?_,yk (HK.out.alloc _) HG.out (fun h=>?_),?_,?_⟩
      ·rw[HP.out,EY];exact HO'.out
      ·have:=(hlo _ h.symm).1;omega
      ·exact(HL.out.alloc (by have:=HS.out;omega) _).grown HG.out (by have:=HS.out;simp;omega) (fun g hg=>by have:=(hlo g hg).1;omega)
      ·have h1:=HG.out.size;have:=HS.out;simp at h1;omega
     case measure=>simp[intOf];omega
   ·have hp:=za s k0 hlt (vM s k0 hlt (hb▸h32))
    have HP:=lH hp;have hn1:(b==32)=false:=by rw[EJ];exact h32
    clear hp hb hs;go_wp2_with fail
    go_roundw
    case rel=>exact⟨k0+1,_,rfl,by omega,by go_num,by rw[HP.out];exact HO.out,HK.out,HL.out,HS.out⟩
    case measure=>simp[intOf];omega
  ·obtain rfl:k0=s.size:=by omega
   have htk:s.data.toList.take s.size=s.data.toList:=Fh (by simp);have hO:=HO.out;rw[htk] at hO hle2;have hL:(iD s.data.toList).length=(cj 32 0 s.data.toList).length:=gg _
   have HX:Hid (∃g c cur,v=.slice g (iD s.data.toList).length c/\((iD s.data.toList).length=2->∃b,g=some ⟨b,0,none⟩/\wr.heap[b]? = some (.cells cur 3 (0,0))/\cur.toList.take 2=iD s.data.toList)):=by
    show ∃g c cur,_;obtain⟨_,h|⟨g,c,cur,h1,_,h2,_,_,_,h6⟩⟩:=hO
    ·exact⟨none,0,#[],by rw[h.1,h.2],fun h2=>by omega⟩
    ·exact⟨some ⟨g,0,none⟩,c,cur,h1,fun h2'=>⟨g,rfl,h2,by rw[<-h6,h2']⟩⟩
   clear HO hO htk hL;obtain⟨g,c,cur,rfl,hg2⟩:=HX.out;have HG2:=lH hg2;clear hg2 HX;obtain⟨n,hn⟩:∃n,n=(iD s.data.toList).length:=⟨_,rfl⟩;rw[<-hn] at hle2 HG2 ⊢;have c0:wr.cell? ⟨w.heap.size,0,none⟩=some (.string ⟨#[]⟩):=HK.out.cell 0;have f0:wr.frozen? ⟨w.heap.size,0,none⟩=false:=HK.out.froz 0;have c1:wr.cell? ⟨w.heap.size,1,none⟩=some (.string ⟨#[]⟩):=HK.out.cell 1;have f1:wr.frozen? ⟨w.heap.size,1,none⟩=false:=HK.out.froz 1;have c2:wr.cell? ⟨w.heap.size,2,none⟩=some (.int .i64 0):=HK.out.cell 2;have f2:wr.frozen? ⟨w.heap.size,2,none⟩=false:=HK.out.froz 2;have c3:wr.cell? ⟨w.heap.size,3,none⟩=some (.int .i64 0):=HK.out.cell 3;have f3:wr.frozen? ⟨w.heap.size,3,none⟩=false:=HK.out.froz 3;have c4:wr.cell? ⟨w.heap.size,4,none⟩=some (.string ⟨#[]⟩):=HK.out.cell 4;have f4:wr.frozen? ⟨w.heap.size,4,none⟩=false:=HK.out.froz 4;have c5:wr.cell? ⟨w.heap.size,5,none⟩=some (.slice none 0 0):=HK.out.cell 5;have f5:wr.frozen? ⟨w.heap.size,5,none⟩=false:=HK.out.froz 5;have hsl:decide ((s.size:Int)<s.size)=false:=by rw[EP];omega
   by_cases h2:n=2
   rotate_left
   ·have HV:=HR.out
    rw[mB (by rw[<-gg,<-hn];exact h2)] at HV;obtain⟨⟨rfl,rfl,rfl⟩,rfl⟩:(⟨#[]⟩=m/\⟨#[]⟩=t/\0=k)/\3=e:=by simpa using HV
    have n2:((n:Int)==2)=false:=by rw[EJ];omega
    have n3:((n:Int) != 2)=true:=by rw[FP];omega
    have n4:¬((n:Int)=2):=by omega
    clear HV hn h2;go_wp2_with fail
    have q:=gi (w:=wr) HK.out (⟨#[]⟩) (⟨#[]⟩) 0 0 ⟨#[]⟩;have u:=dS (w:=wr) HL.out (nR _) (⟨#[]⟩) (⟨#[]⟩) 0 0 ⟨#[]⟩;obtain⟨Wf,hWf⟩:∃Wf,Wf=BS (wr) w.heap.size (⟨#[]⟩) (⟨#[]⟩) 0 0 ⟨#[]⟩:=⟨_,rfl⟩;rw[<-hWf] at q u;have hWf':((((((wr).setCell ⟨w.heap.size,0,none⟩ (.string (⟨#[]⟩))).setCell ⟨w.heap.size,1,none⟩ (.string (⟨#[]⟩))).setCell ⟨w.heap.size,2,none⟩ (.int .i64 0)).setCell ⟨w.heap.size,3,none⟩ (.int .i64 0)).setCell ⟨w.heap.size,4,none⟩ (.string ⟨#[]⟩)).setCell ⟨w.heap.size,5,none⟩ (.slice none 0 0)=Wf:=hWf.symm;rw[hWf'];obtain⟨q0,q1,q2,q3,q4,q5⟩:=Aw q 0 1 2 3 4 5;simp only[GE,Gu,FW] at q0 q1 q2 q3 q4 q5;exact EW (v:=.tuple #[.agg #[.string (⟨#[]⟩),.string (⟨#[]⟩),.int .i64 0,.int .i64 0,.string ⟨#[]⟩,.slice none 0 0],.int .i64 3]) (by simp[results,Tryz.results98,go_sem,q0,q1,q2,q3,q4,q5]) rfl ⟨rfl,u⟩
   ·subst h2
    obtain⟨gb,rfl,hgb,hcur⟩:=HG2.out rfl
    obtain⟨a,b,hab⟩:∃a b,cj 32 0 s.data.toList=[a,b]:=by
     have h3:(cj 32 0 s.data.toList).length=2:=by rw[<-gg,<-hn]
     match hq:cj 32 0 s.data.toList,h3 with
     | [a,b],_=>exact⟨a,b,rfl⟩
    have hpv:iD s.data.toList=[.int .i64 (a:Int),.int .i64 (b:Int)]:=by unfold iD;rw[hab];rfl
    rw[hpv] at hcur;obtain⟨hlt1,hlt2⟩:a<b/\b<s.size:=⟨(lA hab).1,(lA hab).2.1⟩;have HV:=HR.out;rw[nh hab] at HV
    have get2:∀i:Nat,i<2->cur[i]? = [Value.int .i64 (a:Int),.int .i64 (b:Int)][i]?:=fun i hi=>by
     rw[<-hcur,Gn hi,Gq]
    have x0:wr.cell? ⟨gb,0,none⟩=some (.int .i64 (a:Int)):=by
     rw[World.cell?,hgb];simpa using get2 0 (by decide)
    have x1:wr.cell? ⟨gb,1,none⟩=some (.int .i64 (b:Int)):=by
     rw[World.cell?,hgb];simpa using get2 1 (by decide)
    obtain⟨M,hM⟩:∃M,M=s.extract 0 a:=⟨_,rfl⟩;obtain⟨T,hT⟩:∃T,T=s.extract (a+1) b:=⟨_,rfl⟩;obtain⟨V,hV⟩:∃V,V=s.extract (b+1) s.size:=⟨_,rfl⟩;rw[<-hM,<-hT,<-hV] at HV;have hMs:M.size<=9223372036854775807:=by rw[hM];simp;omega
    have hTs:T.size<=9223372036854775807:=by rw[hT];simp;omega
    have hVs:V.size<=9223372036854775807:=by rw[hV];simp;omega
    have s1:∀W:World,(Instr.slice 9 (.string s) none (some (.int .i64 (a:Int))) none).run Tryz.prog W=.ok (.string M) W:=fun W=>by
     rw[run_slice_string_h W 9 s Tryz.underlying9 .i64 (a:Int) (by omega) (by omega),hM];rfl
    have s2:∀W:World,(Instr.slice 9 (.string s) (some (.int .i64 ((a:Int)+1))) (some (.int .i64 (b:Int))) none).run Tryz.prog W=.ok (.string T) W:=fun W=>by
     rw[run_slice_string (w:=W) 9 s .i64 .i64 ((a:Int)+1) (b:Int) Tryz.underlying9 (by omega) (by omega) (by omega),hT];rfl
    have s3:∀W:World,(Instr.slice 9 (.string s) (some (.int .i64 ((b:Int)+1))) none none).run Tryz.prog W=.ok (.string V) W:=fun W=>by
     rw[FR W 9 s Tryz.underlying9 .i64 ((b:Int)+1) (by omega) (by omega),hV];rfl
    have HMs:=lH hMs;have HTs:=lH hTs;have HVs:=lH hVs;clear hM hT hV hab hpv hcur hgb hn get2 hMs hTs hVs HG2;obtain⟨pt,hpt⟩:∃p,dY M.data.toList=p:=⟨_,rfl⟩;obtain⟨pv,hpv⟩:∃p,eT T.data.toList=p:=⟨_,rfl⟩;obtain⟨k',f',hm⟩:∃k' f',bw V=(k',f'):=⟨_,_,rfl⟩;rw[hpt,hpv,hm] at HV;have HT1:Hid (∀W:World,Calls Tryz.prog 120 #[.string M] W fun e w'=>e=.returned (.bool pt)/\W=w'):=fun W=>by subst hpt;exact ke M HMs.out W
    have HT2:Hid (∀W:World,Calls Tryz.prog 121 #[.string T] W fun e w'=>e=.returned (.bool pv)/\W=w'):=fun W=>by subst hpv;exact sb T HTs.out W
    have HT3:Hid (∀W:World,Calls Tryz.prog 122 #[.string V] W fun r w'=>r=.returned (.tuple #[.int .i64 k',.int .i64 f'])/\W=w'):=fun W=>oo V HVs.out hm W;clear hpt hpv hm;cases pt
    ·rw[if_pos rfl] at HV
     obtain⟨⟨rfl,rfl,rfl⟩,rfl⟩:(⟨#[]⟩=m/\⟨#[]⟩=t/\0=k)/\6=e:=by simpa using HV
     clear HV;go_wp2_with fail
     refine aY (by kernel_rfl) (by kernel_rfl) ?_;repeat go_big_quiet_step (fail)
     refine FD ?_;rintro _ ⟨nq,rfl⟩
     go_wp2_with (first
      | (go_at_call 120;refine(HT1.out _).mono ?_;rintro e' w' ⟨rfl,rfl⟩)
      | (go_at_call 121;refine(HT2.out _).mono ?_;rintro e' w' ⟨rfl,rfl⟩)
      | (go_at_call 122;refine(HT3.out _).mono ?_;rintro e' w' ⟨rfl,rfl⟩))
     have q:=gi (w:=(wr.drewN nq)) (af.drewN HK.out nq) (⟨#[]⟩) (⟨#[]⟩) 0 0 ⟨#[]⟩;have u:=dS (w:=(wr.drewN nq)) (HL.out.trans ⟨rfl,rfl,rfl,nR _,fun _ _=>rfl⟩) (nR _) (⟨#[]⟩) (⟨#[]⟩) 0 0 ⟨#[]⟩;obtain⟨Wf,hWf⟩:∃Wf,Wf=BS ((wr.drewN nq)) w.heap.size (⟨#[]⟩) (⟨#[]⟩) 0 0 ⟨#[]⟩:=⟨_,rfl⟩;rw[<-hWf] at q u;have hWf':(((((((wr.drewN nq)).setCell ⟨w.heap.size,0,none⟩ (.string (⟨#[]⟩))).setCell ⟨w.heap.size,1,none⟩ (.string (⟨#[]⟩))).setCell ⟨w.heap.size,2,none⟩ (.int .i64 0)).setCell ⟨w.heap.size,3,none⟩ (.int .i64 0)).setCell ⟨w.heap.size,4,none⟩ (.string ⟨#[]⟩)).setCell ⟨w.heap.size,5,none⟩ (.slice none 0 0)=Wf:=hWf.symm;rw[hWf'];obtain⟨q0,q1,q2,q3,q4,q5⟩:=Aw q 0 1 2 3 4 5;simp only[GE,Gu,FW] at q0 q1 q2 q3 q4 q5;exact EW (v:=.tuple #[.agg #[.string (⟨#[]⟩),.string (⟨#[]⟩),.int .i64 0,.int .i64 0,.string ⟨#[]⟩,.slice none 0 0],.int .i64 6]) (by simp[results,Tryz.results98,go_sem,q0,q1,q2,q3,q4,q5]) rfl ⟨rfl,u⟩
    rw[if_neg (by decide)] at HV;cases pv
    ·rw[if_pos rfl] at HV
     obtain⟨⟨rfl,rfl,rfl⟩,rfl⟩:(⟨#[]⟩=m/\⟨#[]⟩=t/\0=k)/\11=e:=by simpa using HV
     clear HV;go_wp2_with fail
     refine aY (by kernel_rfl) (by kernel_rfl) ?_;repeat go_big_quiet_step (fail)
     refine FD ?_;rintro _ ⟨nq,rfl⟩
     go_wp2_with (first
      | (go_at_call 120;refine(HT1.out _).mono ?_;rintro e' w' ⟨rfl,rfl⟩)
      | (go_at_call 121;refine(HT2.out _).mono ?_;rintro e' w' ⟨rfl,rfl⟩)
      | (go_at_call 122;refine(HT3.out _).mono ?_;rintro e' w' ⟨rfl,rfl⟩))
     have q:=gi (w:=(wr.drewN nq)) (af.drewN HK.out nq) (⟨#[]⟩) (⟨#[]⟩) 0 0 ⟨#[]⟩;have u:=dS (w:=(wr.drewN nq)) (HL.out.trans ⟨rfl,rfl,rfl,nR _,fun _ _=>rfl⟩) (nR _) (⟨#[]⟩) (⟨#[]⟩) 0 0 ⟨#[]⟩;obtain⟨Wf,hWf⟩:∃Wf,Wf=BS ((wr.drewN nq)) w.heap.size (⟨#[]⟩) (⟨#[]⟩) 0 0 ⟨#[]⟩:=⟨_,rfl⟩;rw[<-hWf] at q u;have hWf':(((((((wr.drewN nq)).setCell ⟨w.heap.size,0,none⟩ (.string (⟨#[]⟩))).setCell ⟨w.heap.size,1,none⟩ (.string (⟨#[]⟩))).setCell ⟨w.heap.size,2,none⟩ (.int .i64 0)).setCell ⟨w.heap.size,3,none⟩ (.int .i64 0)).setCell ⟨w.heap.size,4,none⟩ (.string ⟨#[]⟩)).setCell ⟨w.heap.size,5,none⟩ (.slice none 0 0)=Wf:=hWf.symm;rw[hWf'];obtain⟨q0,q1,q2,q3,q4,q5⟩:=Aw q 0 1 2 3 4 5;simp only[GE,Gu,FW] at q0 q1 q2 q3 q4 q5;exact EW (v:=.tuple #[.agg #[.string (⟨#[]⟩),.string (⟨#[]⟩),.int .i64 0,.int .i64 0,.string ⟨#[]⟩,.slice none 0 0],.int .i64 11]) (by simp[results,Tryz.results98,go_sem,q0,q1,q2,q3,q4,q5]) rfl ⟨rfl,u⟩
    rw[if_neg (by decide)] at HV;by_cases hf:f'=0
    rotate_left
    ·rw[if_pos hf] at HV
     obtain⟨⟨rfl,rfl,rfl⟩,rfl⟩:(⟨#[]⟩=m/\⟨#[]⟩=t/\0=k)/\f'=e:=by simpa using HV
     clear HV;have nf:(f'==0)=false:=by rw[EJ];exact hf
     have nf2:(f' != 0)=true:=by rw[FP];exact hf
     go_wp2_with fail
     refine aY (by kernel_rfl) (by kernel_rfl) ?_;repeat go_big_quiet_step (fail)
     refine FD ?_;rintro _ ⟨nq,rfl⟩
     go_wp2_with (first
      | (go_at_call 120;refine(HT1.out _).mono ?_;rintro e' w' ⟨rfl,rfl⟩)
      | (go_at_call 121;refine(HT2.out _).mono ?_;rintro e' w' ⟨rfl,rfl⟩)
      | (go_at_call 122;refine(HT3.out _).mono ?_;rintro e' w' ⟨rfl,rfl⟩))
     have q:=gi (w:=(wr.drewN nq)) (af.drewN HK.out nq) (⟨#[]⟩) (⟨#[]⟩) 0 0 ⟨#[]⟩;have u:=dS (w:=(wr.drewN nq)) (HL.out.trans ⟨rfl,rfl,rfl,nR _,fun _ _=>rfl⟩) (nR _) (⟨#[]⟩) (⟨#[]⟩) 0 0 ⟨#[]⟩;obtain⟨Wf,hWf⟩:∃Wf,Wf=BS ((wr.drewN nq)) w.heap.size (⟨#[]⟩) (⟨#[]⟩) 0 0 ⟨#[]⟩:=⟨_,rfl⟩;rw[<-hWf] at q u;have hWf':(((((((wr.drewN nq)).setCell ⟨w.heap.size,0,none⟩ (.string (⟨#[]⟩))).setCell ⟨w.heap.size,1,none⟩ (.string (⟨#[]⟩))).setCell ⟨w.heap.size,2,none⟩ (.int .i64 0)).setCell ⟨w.heap.size,3,none⟩ (.int .i64 0)).setCell ⟨w.heap.size,4,none⟩ (.string ⟨#[]⟩)).setCell ⟨w.heap.size,5,none⟩ (.slice none 0 0)=Wf:=hWf.symm;rw[hWf'];obtain⟨q0,q1,q2,q3,q4,q5⟩:=Aw q 0 1 2 3 4 5;simp only[GE,Gu,FW] at q0 q1 q2 q3 q4 q5;exact EW (v:=.tuple #[.agg #[.string (⟨#[]⟩),.string (⟨#[]⟩),.int .i64 0,.int .i64 0,.string ⟨#[]⟩,.slice none 0 0],.int .i64 f']) (by simp[results,Tryz.results98,go_sem,q0,q1,q2,q3,q4,q5]) rfl ⟨rfl,u⟩
    ·subst hf
     rw[if_neg (by simp)] at HV;obtain⟨⟨rfl,rfl,rfl⟩,rfl⟩:(M=m/\T=t/\k'=k)/\0=e:=by simpa using HV
     clear HV;go_wp2_with fail
     refine aY (by kernel_rfl) (by kernel_rfl) ?_;repeat go_big_quiet_step (fail)
     refine FD ?_;rintro _ ⟨nq,rfl⟩
     go_wp2_with (first
      | (go_at_call 120;refine(HT1.out _).mono ?_;rintro e' w' ⟨rfl,rfl⟩)
      | (go_at_call 121;refine(HT2.out _).mono ?_;rintro e' w' ⟨rfl,rfl⟩)
      | (go_at_call 122;refine(HT3.out _).mono ?_;rintro e' w' ⟨rfl,rfl⟩))
     have q:=gi (w:=(wr.drewN nq)) (af.drewN HK.out nq) (M) (T) k' 0 ⟨#[]⟩;have u:=dS (w:=(wr.drewN nq)) (HL.out.trans ⟨rfl,rfl,rfl,nR _,fun _ _=>rfl⟩) (nR _) (M) (T) k' 0 ⟨#[]⟩;obtain⟨Wf,hWf⟩:∃Wf,Wf=BS ((wr.drewN nq)) w.heap.size (M) (T) k' 0 ⟨#[]⟩:=⟨_,rfl⟩;rw[<-hWf] at q u;have hWf':(((((((wr.drewN nq)).setCell ⟨w.heap.size,0,none⟩ (.string (M))).setCell ⟨w.heap.size,1,none⟩ (.string (T))).setCell ⟨w.heap.size,2,none⟩ (.int .i64 k')).setCell ⟨w.heap.size,3,none⟩ (.int .i64 0)).setCell ⟨w.heap.size,4,none⟩ (.string ⟨#[]⟩)).setCell ⟨w.heap.size,5,none⟩ (.slice none 0 0)=Wf:=hWf.symm;rw[hWf'];obtain⟨q0,q1,q2,q3,q4,q5⟩:=Aw q 0 1 2 3 4 5;simp only[GE,Gu,FW] at q0 q1 q2 q3 q4 q5;exact EW (v:=.tuple #[.agg #[.string (M),.string (T),.int .i64 k',.int .i64 0,.string ⟨#[]⟩,.slice none 0 0],.int .i64 0]) (by simp[results,Tryz.results98,go_sem,q0,q1,q2,q3,q4,q5]) rfl ⟨rfl,u⟩
end Go.Proofs.YthjbodpeckebiaaGreatDoor
-- Req
namespace Go.Proofs.YthjbodpeckebiaaGreatDoor
open Go.RowKit
structure ib (w0 wr:World) (B:Nat) (M T V:ByteArray) (k e:Int):Prop where
 z:af wr B xU 44
 v:af wr (B+1) #[.string M,.string T,.string V] 9
 h:af wr (B+2) #[.string M,.string T,.int .i64 k,.int .i64 0,.string ⟨#[]⟩,.slice none 0 0] 44
 x:af wr (B+3) #[.int .i64 e] 29
 below:Below B w0 wr
section
variable {w0 wr w':World} {B:Nat} {M T V:ByteArray} {k e:Int}
theorem ib.call (h:ib w0 wr B M T V k e) (hb:Below wr.heap.size wr w'):ib w0 w' B M T V k e:=
 ⟨h.z.call hb,h.v.call hb,h.h.call hb,h.x.call hb,h.below.trans (hb.mono (by have:=h.x.lt;omega))⟩
theorem ib.set (h:ib w0 wr B M T V k e) (y:Int):ib w0 (wr.setCell ⟨B+3,0,none⟩ (.int .i64 y)) B M T V k y:=
 ⟨h.z.far (by simp) _,h.v.far (by simp) _,h.h.far (by simp) _,h.x.set 0 _,h.below.setCell (by simp) _⟩
theorem ib.minor (h:ib w0 wr B M T V k e) (y:Int):ib w0 (wr.setCell ⟨B+2,2,none⟩ (.int .i64 y)) B M T V y e:=
 ⟨h.z.far (by simp) _,h.v.far (by simp) _,h.h.set 2 _,h.x.far (by simp) _,h.below.setCell (by simp) _⟩
theorem ib.m0 (h:ib w0 wr B M T V k e):wr.cell? ⟨B+2,0,none⟩=some (.string M):=h.h.cell 0
theorem ib.m1 (h:ib w0 wr B M T V k e):wr.cell? ⟨B+2,1,none⟩=some (.string T):=h.h.cell 1
theorem ib.v2 (h:ib w0 wr B M T V k e):wr.cell? ⟨B+1,2,none⟩=some (.string V):=h.v.cell 2
theorem ib.x0 (h:ib w0 wr B M T V k e):wr.cell? ⟨B+3,0,none⟩=some (.int .i64 e):=h.x.cell 0
end
theorem DI {w W2:World} {M T V:ByteArray} (hK:af W2 w.heap.size xU 44) (hV:af W2 (w.heap.size+1) #[.string M,.string T,.string V] 9) (hL:Below w.heap.size w W2) (hz:W2.heap.size=w.heap.size+2):
 ib w ((W2.alloc (.cells #[.string M,.string T,.int .i64 0,.int .i64 0,.string ⟨#[]⟩,.slice none 0 0] 44)).alloc (.cells #[.int .i64 0] 29)).drew w.heap.size M T V 0 0:=
 ⟨((hK.alloc _).alloc _).drew,((hV.alloc _).alloc _).drew,((af.new' (by omega)).alloc _).drew,(af.new' (by simp;omega)).drew,((hL.alloc (by omega) _).alloc (by simp;omega) _).drew⟩
def eO (p:Bool) (x e:Int):Int:=if e=0/\p=false then x else e
theorem wM {w0 wr:World} {B:Nat} {M T V:ByteArray} {k e:Int} (h:Hid (ib w0 wr B M T V k e)) (p:Bool) (x:Int):
 Calls Tryz.prog 164 #[.bool p,.int .i64 x,.pointer (some ⟨B+3,0,none⟩)] wr fun r w'=>r=.returned (.tuple #[])/\Hid (ib w0 w' B M T V k (eO p x e)):=by
 have c0:=h.out.x0;have f0:wr.frozen? ⟨B+3,0,none⟩=false:=h.out.x.froz 0;by_cases he:e=0
 ·subst he
  cases p
  ·have HA:Hid (eO false x 0=x):=by show eO false x 0=x;unfold eO;rw[if_pos ⟨rfl,rfl⟩]
   go_enter Tryz.func164,Tryz.ntmps164
   go_wp2_with fail
   go_end0
   rw[HA.out];exact⟨rfl,h.out.set x⟩
  ·have HA:Hid (eO true x 0=0):=by show eO true x 0=0;unfold eO;rw[if_neg (by simp)]
   go_enter Tryz.func164,Tryz.ntmps164
   go_wp2_with fail
   go_end0
   rw[HA.out];exact⟨rfl,h⟩
 ·have HA:Hid (eO p x e=e):=by show eO p x e=e;unfold eO;rw[if_neg (fun h=>he h.1)]
  have hb:(e==0)=false:=by rw[EJ];exact he
  go_enter Tryz.func164,Tryz.ntmps164
  go_wp2_with fail
  go_end0
  rw[HA.out];exact⟨rfl,h⟩
theorem l8 {s:ByteArray} {a b:Nat} (h:cj 32 0 s.data.toList=[a,b]) (hs:s.size<=100000) {mx:Int} (w:World) (hm:w.cell? ⟨0,0,none⟩=some (.int .i64 mx)):
 Calls Tryz.prog 163 #[.string s,.string ⟨#[32]⟩] w fun e w'=>e=.returned (.slice (some ⟨w.heap.size,0,none⟩) 3 3)/\w'=w.alloc (.cells #[.string (s.extract 0 a),.string (s.extract (a+1) b),.string (s.extract (b+1) s.size)] 9):=by
 have hc:Lib.countB s AP=2:=by rw[qP,h];rfl
 have h1:=Tryz.strings_Split s AP mx w (by omega) hm (by decide);rw[hc,(lA h).2.2] at h1;exact h1
theorem tw {s:ByteArray} (h:(cj 32 0 s.data.toList).length≠2) (hs:s.size<=100000) {mx:Int} (w:World) (hm:w.cell? ⟨0,0,none⟩=some (.int .i64 mx)):
 Calls Tryz.prog 163 #[.string s,.string ⟨#[32]⟩] w fun e w'=>∃n:Nat,n≠3/\n<=100001/\∃cs,e=.returned (.slice (some ⟨w.heap.size,0,none⟩) n n)/\w'=w.alloc (.cells cs 9):=by
 have h1:=Tryz.strings_Split s AP mx w (by omega) hm (by decide);refine h1.mono ?_;rintro e w' ⟨h2,h3⟩;refine⟨Lib.countB s AP+1,?_,?_,_,h2,h3⟩
 ·rw[qP];omega
 ·have:=Lib.countB_le AP (by decide) s.size s (nR _);omega
theorem reqE {s:ByteArray} {a b:Nat} (h:cj 32 0 s.data.toList=[a,b]) {k f:Int} (hv:bw (s.extract (b+1) s.size)=(k,f)):
 eV s=if eO (f==0) f (eO (eT (s.extract (a+1) b).data.toList) 11 (eO (dY (s.extract 0 a).data.toList) 6 0))=0 then ((s.extract 0 a,s.extract (a+1) b,k),0)
  else ((⟨#[]⟩,⟨#[]⟩,0),eO (f==0) f (eO (eT (s.extract (a+1) b).data.toList) 11 (eO (dY (s.extract 0 a).data.toList) 6 0))):=by
 rw[nh h,hv];cases dY (s.extract 0 a).data.toList<;>cases eT (s.extract (a+1) b).data.toList<;>by_cases hf:f=0<;>simp[eO,hf]
theorem pA (s:ByteArray) (hs:s.size<=100000) (h:(cj 32 0 s.data.toList).length≠2) {mx:Int} (w:World) (hm:w.cell? ⟨0,0,none⟩=some (.int .i64 mx)):
 Calls Tryz.prog 137 #[.string s] w fun o w'=>o=.returned (.tuple #[.agg #[.string ⟨#[]⟩,.string ⟨#[]⟩,.int .i64 0,.int .i64 0,.string ⟨#[]⟩,.slice none 0 0],.int .i64 3])/\Below w.heap.size w w':=by
 have hm1:(w.alloc (.cells xU 44)).cell? ⟨0,0,none⟩=some (.int .i64 mx):=by
  rw[World.cell?_alloc_old _ _ _ (Nat.ne_of_lt (ET _ _ hm))];exact hm
 have HC:=lH (tw h hs (w.alloc (.cells xU 44)) hm1);clear h hs hm hm1;go_enter Tryz.func137,Tryz.ntmps137
 go_wp2_with (go_at_call 163;refine HC.out.mono ?_;rintro e' W2 ⟨n,hn3,hn1,cs,rfl,hw⟩;have n3:((n:Int)==3)=false:=(by rw[EJ];omega);have n4:((n:Int) != 3)=true:=(by rw[FP];omega);have HK:Hid (af W2 w.heap.size xU 44):=(by show af _ _ _ _;rw[hw];exact(af.new _ _ _).alloc _);have HL:Hid (Below w.heap.size w W2):=(by show Below _ _ _;rw[hw];exact((EK _ _).alloc (nR _) _).alloc (by simp) _);clear hw hn3;have c0:W2.cell? ⟨w.heap.size,0,none⟩=some (.string ⟨#[]⟩):=HK.out.cell 0;have f0:W2.frozen? ⟨w.heap.size,0,none⟩=false:=HK.out.froz 0;have c1:W2.cell? ⟨w.heap.size,1,none⟩=some (.string ⟨#[]⟩):=HK.out.cell 1;have f1:W2.frozen? ⟨w.heap.size,1,none⟩=false:=HK.out.froz 1;have c2:W2.cell? ⟨w.heap.size,2,none⟩=some (.int .i64 0):=HK.out.cell 2;have f2:W2.frozen? ⟨w.heap.size,2,none⟩=false:=HK.out.froz 2;have c3:W2.cell? ⟨w.heap.size,3,none⟩=some (.int .i64 0):=HK.out.cell 3;have f3:W2.frozen? ⟨w.heap.size,3,none⟩=false:=HK.out.froz 3;have c4:W2.cell? ⟨w.heap.size,4,none⟩=some (.string ⟨#[]⟩):=HK.out.cell 4;have f4:W2.frozen? ⟨w.heap.size,4,none⟩=false:=HK.out.froz 4;have c5:W2.cell? ⟨w.heap.size,5,none⟩=some (.slice none 0 0):=HK.out.cell 5;have f5:W2.frozen? ⟨w.heap.size,5,none⟩=false:=HK.out.froz 5)
 have q:=gi (w:=W2) HK.out (⟨#[]⟩) (⟨#[]⟩) (0) 0 ⟨#[]⟩;have u:=dS (w:=W2) HL.out (nR _) (⟨#[]⟩) (⟨#[]⟩) (0) 0 ⟨#[]⟩;obtain⟨Wf,hWf⟩:∃Wf,Wf=BS (W2) w.heap.size (⟨#[]⟩) (⟨#[]⟩) (0) 0 ⟨#[]⟩:=⟨_,rfl⟩;rw[<-hWf] at q u;have hWf':((((((W2).setCell ⟨w.heap.size,0,none⟩ (.string (⟨#[]⟩))).setCell ⟨w.heap.size,1,none⟩ (.string (⟨#[]⟩))).setCell ⟨w.heap.size,2,none⟩ (.int .i64 (0))).setCell ⟨w.heap.size,3,none⟩ (.int .i64 0)).setCell ⟨w.heap.size,4,none⟩ (.string ⟨#[]⟩)).setCell ⟨w.heap.size,5,none⟩ (.slice none 0 0)=Wf:=hWf.symm;rw[hWf'];obtain⟨q0,q1,q2,q3,q4,q5⟩:=Aw q 0 1 2 3 4 5;simp only[GE,Gu,FW] at q0 q1 q2 q3 q4 q5;exact EW (v:=.tuple #[.agg #[.string (⟨#[]⟩),.string (⟨#[]⟩),.int .i64 (0),.int .i64 0,.string ⟨#[]⟩,.slice none 0 0],.int .i64 (3)]) (by simp[results,Tryz.results137,go_sem,q0,q1,q2,q3,q4,q5]) rfl ⟨rfl,u⟩
theorem ub (s:ByteArray) (hs:s.size<=100000) {a b:Nat} (h:cj 32 0 s.data.toList=[a,b]) {M T V:ByteArray} (hM:M=s.extract 0 a) (hT:T=s.extract (a+1) b) (hV:V=s.extract (b+1) s.size) {k f e1 e2 e3:Int} {p1 p2:Bool} (hk:bw V=(k,f)) (hp1:dY M.data.toList=p1) (hp2:eT T.data.toList=p2)
 (he1:eO p1 6 0=e1) (he2:eO p2 11 e1=e2) (he3:eO (f==0) f e2=e3) (hz:e3≠0) {mx:Int} (w:World) (hm:w.cell? ⟨0,0,none⟩=some (.int .i64 mx)):
 Calls Tryz.prog 137 #[.string s] w fun o w'=>o=.returned (.tuple #[.agg #[.string ⟨#[]⟩,.string ⟨#[]⟩,.int .i64 0,.int .i64 0,.string ⟨#[]⟩,.slice none 0 0],.int .i64 e3])/\Below w.heap.size w w':=by
 have hm1:(w.alloc (.cells xU 44)).cell? ⟨0,0,none⟩=some (.int .i64 mx):=by
  rw[World.cell?_alloc_old _ _ _ (Nat.ne_of_lt (ET _ _ hm))];exact hm
 have HC:=l8 h hs (w.alloc (.cells xU 44)) hm1;have hMs:M.size<=9223372036854775807:=by rw[hM];simp;omega
 have hTs:T.size<=9223372036854775807:=by rw[hT];simp;omega
 have hVs:V.size<=9223372036854775807:=by rw[hV];simp;omega
 rw[<-hM,<-hT,<-hV] at HC;have HC:=lH HC;have HT1:Hid (∀W:World,Calls Tryz.prog 165 #[.string M] W fun e w'=>e=.returned (.bool p1)/\Below W.heap.size W w'):=fun W=>by subst hp1;exact gZ M hMs W
 have HT2:Hid (∀W:World,Calls Tryz.prog 166 #[.string T] W fun e w'=>e=.returned (.bool p2)/\Below W.heap.size W w'):=fun W=>by subst hp2;exact mG T hTs W
 have HT3:Hid (∀W:World,Calls Tryz.prog 167 #[.string V] W fun r w'=>r=.returned (.tuple #[.int .i64 k,.int .i64 f])/\W=w'):=fun W=>lR V hVs hk W;have HE1:=lH he1;have HE2:=lH he2;have HE3:=lH he3;have n0:(e3==0)=false:=by rw[EJ];exact hz
 have n1:(e3 != 0)=true:=by rw[FP];exact hz
 clear h hs hm hm1 hM hT hV hMs hTs hVs hk hp1 hp2 he1 he2 he3 hz;go_enter Tryz.func137,Tryz.ntmps137
 go_wp2_with (go_at_call 163;refine HC.out.mono ?_;rintro e' W2 ⟨rfl,hw⟩;have HK:Hid (af W2 w.heap.size xU 44):=(by show af _ _ _ _;rw[hw];exact(af.new _ _ _).alloc _);have HV:Hid (af W2 (w.heap.size+1) #[.string M,.string T,.string V] 9):=(by show af _ _ _ _;rw[hw];exact af.new' (by simp));have HL:Hid (Below w.heap.size w W2):=(by show Below _ _ _;rw[hw];exact((EK _ _).alloc (nR _) _).alloc (by simp) _);have hwz:W2.heap.size=w.heap.size+2:=(by rw[hw];simp);clear hw;have v0:W2.cell? ⟨w.heap.size+1,0,none⟩=some (.string M):=HV.out.cell 0;have v1:W2.cell? ⟨w.heap.size+1,1,none⟩=some (.string T):=HV.out.cell 1)
 go_region
 go_wp2_with (first
  | (go_at_call 165;refine(HT1.out _).mono ?_;rintro e' w3 ⟨rfl,hb⟩;have HI:=lH ((DI HK.out HV.out HL.out hwz).call hb);clear hb)
  | (go_at_call 166;refine(HT2.out _).mono ?_;rintro e' w3 ⟨rfl,hb⟩;have HI:=lH (HI.out.call hb);clear hb)
  | (go_at_call 167;refine(HT3.out _).mono ?_;rintro e' w3 ⟨rfl,rfl⟩)
  | (go_at_call 164;refine(wM (by assumption) _ _).mono ?_;rintro e' w4 ⟨rfl,hI⟩;(try rw[HE1.out] at hI);(try rw[HE2.out] at hI);(try rw[HE3.out] at hI);have HI:=lH hI.out;clear hI;have y1:=HI.out.m1;have y2:=HI.out.v2;have y3:=HI.out.x0;have y4:w4.cell? ⟨w.heap.size+2,2,none⟩=some (.int .i64 0):=HI.out.h.cell 2;have y5:w4.frozen? ⟨w.heap.size+2,2,none⟩=false:=HI.out.h.froz 2))
 obtain⟨W9,hW9⟩:∃W9,W9=w4.setCell ⟨w.heap.size+2,2,none⟩ (.int .i64 k):=⟨_,rfl⟩;have I9:=HI.out.minor k;rw[<-hW9] at I9;rw[<-hW9];have J9:=lH I9;clear I9 hW9;have c0:W9.cell? ⟨w.heap.size,0,none⟩=some (.string ⟨#[]⟩):=J9.out.z.cell 0;have f0:W9.frozen? ⟨w.heap.size,0,none⟩=false:=J9.out.z.froz 0;have c1:W9.cell? ⟨w.heap.size,1,none⟩=some (.string ⟨#[]⟩):=J9.out.z.cell 1;have f1:W9.frozen? ⟨w.heap.size,1,none⟩=false:=J9.out.z.froz 1;have c2:W9.cell? ⟨w.heap.size,2,none⟩=some (.int .i64 0):=J9.out.z.cell 2;have f2:W9.frozen? ⟨w.heap.size,2,none⟩=false:=J9.out.z.froz 2;have c3:W9.cell? ⟨w.heap.size,3,none⟩=some (.int .i64 0):=J9.out.z.cell 3;have f3:W9.frozen? ⟨w.heap.size,3,none⟩=false:=J9.out.z.froz 3;have c4:W9.cell? ⟨w.heap.size,4,none⟩=some (.string ⟨#[]⟩):=J9.out.z.cell 4;have f4:W9.frozen? ⟨w.heap.size,4,none⟩=false:=J9.out.z.froz 4;have c5:W9.cell? ⟨w.heap.size,5,none⟩=some (.slice none 0 0):=J9.out.z.cell 5;have f5:W9.frozen? ⟨w.heap.size,5,none⟩=false:=J9.out.z.froz 5;have x0:=J9.out.x0;have h0:W9.cell? ⟨w.heap.size+2,0,none⟩=some (.string M):=J9.out.h.cell 0;have h1:W9.cell? ⟨w.heap.size+2,1,none⟩=some (.string T):=J9.out.h.cell 1;have h2:W9.cell? ⟨w.heap.size+2,2,none⟩=some (.int .i64 k):=J9.out.h.cell 2;have h3:W9.cell? ⟨w.heap.size+2,3,none⟩=some (.int .i64 0):=J9.out.h.cell 3;have h4:W9.cell? ⟨w.heap.size+2,4,none⟩=some (.string ⟨#[]⟩):=J9.out.h.cell 4
 have h5:W9.cell? ⟨w.heap.size+2,5,none⟩=some (.slice none 0 0):=J9.out.h.cell 5;go_region
 clear c0 f0 c1 f1 c2 f2 c3 f3 c4 f4 c5 f5;have c:=J9.out;have q:=gi (w:=W9) c.z (⟨#[]⟩) (⟨#[]⟩) (0) 0 ⟨#[]⟩;have u:=dS (w:=W9) c.below (nR _) (⟨#[]⟩) (⟨#[]⟩) (0) 0 ⟨#[]⟩;obtain⟨Wf,hWf⟩:∃Wf,Wf=BS (W9) w.heap.size (⟨#[]⟩) (⟨#[]⟩) (0) 0 ⟨#[]⟩:=⟨_,rfl⟩;rw[<-hWf] at q u;have hWf':((((((W9).setCell ⟨w.heap.size,0,none⟩ (.string (⟨#[]⟩))).setCell ⟨w.heap.size,1,none⟩ (.string (⟨#[]⟩))).setCell ⟨w.heap.size,2,none⟩ (.int .i64 (0))).setCell ⟨w.heap.size,3,none⟩ (.int .i64 0)).setCell ⟨w.heap.size,4,none⟩ (.string ⟨#[]⟩)).setCell ⟨w.heap.size,5,none⟩ (.slice none 0 0)=Wf:=hWf.symm;rw[hWf'];go_wp2_with fail
 obtain⟨q0,q1,q2,q3,q4,q5⟩:=Aw q 0 1 2 3 4 5;simp only[GE,Gu,FW] at q0 q1 q2 q3 q4 q5;exact EW (v:=.tuple #[.agg #[.string (⟨#[]⟩),.string (⟨#[]⟩),.int .i64 (0),.int .i64 0,.string ⟨#[]⟩,.slice none 0 0],.int .i64 (e3)]) (by simp[results,Tryz.results137,go_sem,q0,q1,q2,q3,q4,q5]) rfl ⟨rfl,u.drew⟩
theorem rX (s:ByteArray) (hs:s.size<=100000) {a b:Nat} (h:cj 32 0 s.data.toList=[a,b]) {M T V:ByteArray} (hM:M=s.extract 0 a) (hT:T=s.extract (a+1) b) (hV:V=s.extract (b+1) s.size) {k f e1 e2 e3:Int} {p1 p2:Bool} (hk:bw V=(k,f)) (hp1:dY M.data.toList=p1) (hp2:eT T.data.toList=p2)
 (he1:eO p1 6 0=e1) (he2:eO p2 11 e1=e2) (he3:eO (f==0) f e2=e3) (hz:e3=0) {mx:Int} (w:World) (hm:w.cell? ⟨0,0,none⟩=some (.int .i64 mx)):
 Calls Tryz.prog 137 #[.string s] w fun o w'=>o=.returned (.tuple #[.agg #[.string M,.string T,.int .i64 k,.int .i64 0,.string ⟨#[]⟩,.slice none 0 0],.int .i64 e3])/\Below w.heap.size w w':=by
 have hm1:(w.alloc (.cells xU 44)).cell? ⟨0,0,none⟩=some (.int .i64 mx):=by
  rw[World.cell?_alloc_old _ _ _ (Nat.ne_of_lt (ET _ _ hm))];exact hm
 have HC:=l8 h hs (w.alloc (.cells xU 44)) hm1;have hMs:M.size<=9223372036854775807:=by rw[hM];simp;omega
 have hTs:T.size<=9223372036854775807:=by rw[hT];simp;omega
 have hVs:V.size<=9223372036854775807:=by rw[hV];simp;omega
 rw[<-hM,<-hT,<-hV] at HC;have HC:=lH HC;have HT1:Hid (∀W:World,Calls Tryz.prog 165 #[.string M] W fun e w'=>e=.returned (.bool p1)/\Below W.heap.size W w'):=fun W=>by subst hp1;exact gZ M hMs W
 have HT2:Hid (∀W:World,Calls Tryz.prog 166 #[.string T] W fun e w'=>e=.returned (.bool p2)/\Below W.heap.size W w'):=fun W=>by subst hp2;exact mG T hTs W
 have HT3:Hid (∀W:World,Calls Tryz.prog 167 #[.string V] W fun r w'=>r=.returned (.tuple #[.int .i64 k,.int .i64 f])/\W=w'):=fun W=>lR V hVs hk W;have HE1:=lH he1;have HE2:=lH he2;have HE3:=lH he3;subst hz;skip
 clear h hs hm hm1 hM hT hV hMs hTs hVs hk hp1 hp2 he1 he2 he3;go_enter Tryz.func137,Tryz.ntmps137
 go_wp2_with (go_at_call 163;refine HC.out.mono ?_;rintro e' W2 ⟨rfl,hw⟩;have HK:Hid (af W2 w.heap.size xU 44):=(by show af _ _ _ _;rw[hw];exact(af.new _ _ _).alloc _);have HV:Hid (af W2 (w.heap.size+1) #[.string M,.string T,.string V] 9):=(by show af _ _ _ _;rw[hw];exact af.new' (by simp));have HL:Hid (Below w.heap.size w W2):=(by show Below _ _ _;rw[hw];exact((EK _ _).alloc (nR _) _).alloc (by simp) _);have hwz:W2.heap.size=w.heap.size+2:=(by rw[hw];simp);clear hw;have v0:W2.cell? ⟨w.heap.size+1,0,none⟩=some (.string M):=HV.out.cell 0;have v1:W2.cell? ⟨w.heap.size+1,1,none⟩=some (.string T):=HV.out.cell 1)
 go_region
 go_wp2_with (first
  | (go_at_call 165;refine(HT1.out _).mono ?_;rintro e' w3 ⟨rfl,hb⟩;have HI:=lH ((DI HK.out HV.out HL.out hwz).call hb);clear hb)
  | (go_at_call 166;refine(HT2.out _).mono ?_;rintro e' w3 ⟨rfl,hb⟩;have HI:=lH (HI.out.call hb);clear hb)
  | (go_at_call 167;refine(HT3.out _).mono ?_;rintro e' w3 ⟨rfl,rfl⟩)
  | (go_at_call 164;refine(wM (by assumption) _ _).mono ?_;rintro e' w4 ⟨rfl,hI⟩;(try rw[HE1.out] at hI);(try rw[HE2.out] at hI);(try rw[HE3.out] at hI);have HI:=lH hI.out;clear hI;have y1:=HI.out.m1;have y2:=HI.out.v2;have y3:=HI.out.x0;have y4:w4.cell? ⟨w.heap.size+2,2,none⟩=some (.int .i64 0):=HI.out.h.cell 2;have y5:w4.frozen? ⟨w.heap.size+2,2,none⟩=false:=HI.out.h.froz 2))
 obtain⟨W9,hW9⟩:∃W9,W9=w4.setCell ⟨w.heap.size+2,2,none⟩ (.int .i64 k):=⟨_,rfl⟩;have I9:=HI.out.minor k;rw[<-hW9] at I9;rw[<-hW9];have J9:=lH I9;clear I9 hW9;have c0:W9.cell? ⟨w.heap.size,0,none⟩=some (.string ⟨#[]⟩):=J9.out.z.cell 0;have f0:W9.frozen? ⟨w.heap.size,0,none⟩=false:=J9.out.z.froz 0;have c1:W9.cell? ⟨w.heap.size,1,none⟩=some (.string ⟨#[]⟩):=J9.out.z.cell 1;have f1:W9.frozen? ⟨w.heap.size,1,none⟩=false:=J9.out.z.froz 1;have c2:W9.cell? ⟨w.heap.size,2,none⟩=some (.int .i64 0):=J9.out.z.cell 2;have f2:W9.frozen? ⟨w.heap.size,2,none⟩=false:=J9.out.z.froz 2;have c3:W9.cell? ⟨w.heap.size,3,none⟩=some (.int .i64 0):=J9.out.z.cell 3;have f3:W9.frozen? ⟨w.heap.size,3,none⟩=false:=J9.out.z.froz 3;have c4:W9.cell? ⟨w.heap.size,4,none⟩=some (.string ⟨#[]⟩):=J9.out.z.cell 4;have f4:W9.frozen? ⟨w.heap.size,4,none⟩=false:=J9.out.z.froz 4;have c5:W9.cell? ⟨w.heap.size,5,none⟩=some (.slice none 0 0):=J9.out.z.cell 5;have f5:W9.frozen? ⟨w.heap.size,5,none⟩=false:=J9.out.z.froz 5;have x0:=J9.out.x0;have h0:W9.cell? ⟨w.heap.size+2,0,none⟩=some (.string M):=J9.out.h.cell 0;have h1:W9.cell? ⟨w.heap.size+2,1,none⟩=some (.string T):=J9.out.h.cell 1;have h2:W9.cell? ⟨w.heap.size+2,2,none⟩=some (.int .i64 k):=J9.out.h.cell 2;have h3:W9.cell? ⟨w.heap.size+2,3,none⟩=some (.int .i64 0):=J9.out.h.cell 3;have h4:W9.cell? ⟨w.heap.size+2,4,none⟩=some (.string ⟨#[]⟩):=J9.out.h.cell 4
 have h5:W9.cell? ⟨w.heap.size+2,5,none⟩=some (.slice none 0 0):=J9.out.h.cell 5;go_region
 clear c0 f0 c1 f1 c2 f2 c3 f3 c4 f4 c5 f5;have c:=J9.out;have q:=gi (w:=W9) c.z (M) (T) (k) 0 ⟨#[]⟩;have u:=dS (w:=W9) c.below (nR _) (M) (T) (k) 0 ⟨#[]⟩;obtain⟨Wf,hWf⟩:∃Wf,Wf=BS (W9) w.heap.size (M) (T) (k) 0 ⟨#[]⟩:=⟨_,rfl⟩;rw[<-hWf] at q u;have hWf':((((((W9).setCell ⟨w.heap.size,0,none⟩ (.string (M))).setCell ⟨w.heap.size,1,none⟩ (.string (T))).setCell ⟨w.heap.size,2,none⟩ (.int .i64 (k))).setCell ⟨w.heap.size,3,none⟩ (.int .i64 0)).setCell ⟨w.heap.size,4,none⟩ (.string ⟨#[]⟩)).setCell ⟨w.heap.size,5,none⟩ (.slice none 0 0)=Wf:=hWf.symm;rw[hWf'];go_wp2_with fail
 obtain⟨q0,q1,q2,q3,q4,q5⟩:=Aw q 0 1 2 3 4 5;simp only[GE,Gu,FW] at q0 q1 q2 q3 q4 q5;exact EW (v:=.tuple #[.agg #[.string (M),.string (T),.int .i64 (k),.int .i64 0,.string ⟨#[]⟩,.slice none 0 0],.int .i64 (0)]) (by simp[results,Tryz.results137,go_sem,q0,q1,q2,q3,q4,q5]) rfl ⟨rfl,u.drew⟩
end Go.Proofs.YthjbodpeckebiaaGreatDoor
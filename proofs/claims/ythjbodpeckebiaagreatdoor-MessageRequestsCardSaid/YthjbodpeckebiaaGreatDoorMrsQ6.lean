/- Texts packed for one claim, 6 of 52: FParse FParseW FrP. -/
import Derived.Test.YthjbodpeckebiaaGreatDoorMrsQ3
import Derived.Test.YthjbodpeckebiaaGreatDoorMrsQ4
import Derived.Test.YthjbodpeckebiaaGreatDoorMrsQ5
import Derived.Test.YthjbodpeckebiaaGreatDoorMrsShelf
set_option maxRecDepth 100000
set_option maxHeartbeats 16000000
set_option linter.unusedSimpArgs false
set_option linter.unusedVariables false
-- FParse
namespace Go.Proofs.YthjbodpeckebiaaGreatDoor
open Go.RowKit
def bK (l:List UInt8):List UInt8:=l.takeWhile fun b=>b != 58
def aN (s:ByteArray):Fd×Int:=
 if (bK s.data.toList).length=s.size then ((⟨#[]⟩,⟨#[]⟩),3)
 else if !dY (bK s.data.toList) then ((⟨#[]⟩,⟨#[]⟩),6)
 else if !ff (s.data.toList.drop ((bK s.data.toList).length+1)) then ((⟨#[]⟩,⟨#[]⟩),7)
 else ((⟨(bK s.data.toList).toArray⟩,aX ⟨(s.data.toList.drop ((bK s.data.toList).length+1)).toArray⟩),0)
theorem mI:∀l:List UInt8,Lib.index l [58]=if (bK l).length=l.length then -1 else ((bK l).length:Int)
 | []=>by simp[Lib.index,bK]
 | b :: l=>by
   have ih:=mI l;unfold Lib.index;by_cases h:b=58
   ·subst h
    simp[bK]
   ·have e1:([58]:List UInt8).isPrefixOf (b :: l)=false:=by
     simp[List.isPrefixOf,Ne.symm h]
    have e2:bK (b :: l)=b :: bK l:=by unfold bK;rw[Gi];simp[h]
    rw[e1,e2,ih];simp only[EQ,FX,if_false];by_cases h2:(bK l).length=l.length
    ·simp[h2]
    ·have h3:((((bK l).length:Int)==-1))=false:=by rw[EJ];omega
     simp[h2,h3]
theorem Da (l:List UInt8):(bK l).length<=l.length:=(List.takeWhile_sublist _).length_le
theorem qj (l:List UInt8):l.take (bK l).length=bK l:=by
 unfold bK;exact(List.prefix_iff_eq_take.1 (List.takeWhile_prefix _)).symm
theorem zw (l:List UInt8):Lib.cut l [58]=if (bK l).length=l.length then (l,[],false) else (bK l,l.drop ((bK l).length+1),true):=by
 unfold Lib.cut;rw[mI];by_cases h:(bK l).length=l.length
 ·rw[if_pos h,if_neg (by omega),if_pos h]
 ·rw[if_neg h,if_pos (by omega),if_neg h,EX,qj]
  rfl
theorem eu {w w1:World} {mx:Int} (hm:w.cell? ⟨0,0,none⟩=some (.int .i64 mx)) (hb:Below w.heap.size w w1):w1.cell? ⟨0,0,none⟩=some (.int .i64 mx):=
 (hb.cell (p:=⟨0,0,none⟩) (ET w _ hm)).trans hm
theorem ng (s:ByteArray) {mx:Int} (w:World) (hm:w.cell? ⟨0,0,none⟩=some (.int .i64 mx)) (hs:s.size<=1000000) {p q:ByteArray} {f:Bool} (h:Lib.cut s.data.toList [58]=(p.data.toList,q.data.toList,f)):
 Calls Tryz.prog 174 #[.string s,.string ⟨#[58]⟩] w fun e w'=>e=.returned (.tuple #[.string p,.string q,.bool f])/\Below w.heap.size w w':=
 (
  Tryz.strings_Cut s ⟨#[58]⟩ mx w (by omega) hm).mono fun e w' ⟨he,n,hw⟩=>⟨by
  have e1:(⟨#[58]⟩:ByteArray).data.toList=[58]:=rfl
  rw[he,e1,h],by rw[hw];exact dW _ _⟩
def EH:Array Value:=#[.string ⟨#[]⟩,.string ⟨#[]⟩]
theorem qT (s:ByteArray):(⟨(bK s.data.toList).toArray⟩:ByteArray).size<=s.size:=by
 have:=Da s.data.toList;show (bK s.data.toList).toArray.size<=_;simpa using this
theorem qF (s:ByteArray) (k:Nat):(⟨(s.data.toList.drop k).toArray⟩:ByteArray).size<=s.size:=by
 show (s.data.toList.drop k).toArray.size<=_;simp
end Go.Proofs.YthjbodpeckebiaaGreatDoor
-- FParseW
namespace Go.Proofs.YthjbodpeckebiaaGreatDoor
open Go.RowKit
theorem eH {w w1:World} {o:Obj} (h:Below (w.alloc o).heap.size (w.alloc o) w1):Below w.heap.size w w1:=((EK _ _).alloc (nR _) _).trans (h.mono (by simp))
theorem cC {w:World} {g:Nat} {t:TypeId} {x0 x1:Value} (h:af w g #[x0,x1] t) (a b:Value):af ((w.setCell ⟨g,0,none⟩ a).setCell ⟨g,1,none⟩ b) g #[a,b] t:=by
 have:=(h.set 0 a).set 1 b;simp at this;exact this
theorem ai {P:Program} {fn:Func} {p u:Tmp} {ty:TypeId} (h:fn.results=#[.cell p ty,.tmp u]) (tmps:Array Value) (w:World) (g:Nat) (cs:Array Value)
 (hp:tmps.getD p undef=.pointer (some ⟨g,0,none⟩)) (hl:(loadVar ty ⟨g,0,none⟩).run P w=.ok (.agg cs) w):
 (results fn tmps).run P w=.ok (.tuple #[.agg cs,tmps.getD u undef]) w:=by
 rw[results_cell_tmp h,hp];show ((loadVar ty ⟨g,0,none⟩).run P w).andThen _=_;rw[hl];rfl
theorem v9 (s p q:ByteArray) {mx:Int} (hs:s.size<=1000000) (hp:p.size<=1000000) (hq:q.size<=1000000) (hc:Lib.cut s.data.toList [58]=(p.data.toList,q.data.toList,false)) (w:World) (hm:w.cell? ⟨0,0,none⟩=some (.int .i64 mx)):
 Calls Tryz.prog 140 #[.string s] w fun e w'=>e=.returned (.tuple #[.agg #[.string ⟨#[]⟩,.string ⟨#[]⟩],.int .i64 3])/\Below w.heap.size w w':=by
 have HC:=lH (fun(W:World) hW=>ng s W (mx:=mx) hW hs hc);have HM:Hid ((w.alloc (.cells #[.string ⟨#[]⟩,.string ⟨#[]⟩] 95)).cell? ⟨0,0,none⟩=some (.int .i64 mx)):=eu hm ((EK _ _).alloc (nR _) _);clear hc hm;go_enter Tryz.func140,Tryz.ntmps140
 go_wp2_with (first|(go_at_call 174;refine(HC.out _ HM.out).mono ?_;rintro e1 w1 ⟨rfl,hb⟩;have K1:=lH ((af.new w #[.string ⟨#[]⟩,.string ⟨#[]⟩] 95).call hb);have B1:=lH (eH hb);have hl1:=K1.out.lt;clear hb;have a10:=K1.out.cell 0;have f10:=K1.out.froz 0;have a11:=K1.out.cell 1;have f11:=K1.out.froz 1;simp at a10 a11))
 exact EW (ai Tryz.results140 _ _ _ _ rfl (E7 _ _ _ _ _ _ _ (cC K1.out _ _) Tryz.underlying95 rfl (by kernel_rfl))) rfl ⟨rfl,(B1.out.setCell (nR _) _).setCell (nR _) _⟩
theorem wn (s p q:ByteArray) {mx:Int} (hs:s.size<=1000000) (hp:p.size<=1000000) (hq:q.size<=1000000) (hc:Lib.cut s.data.toList [58]=(p.data.toList,q.data.toList,true)) (htok:dY p.data.toList=false) (w:World) (hm:w.cell? ⟨0,0,none⟩=some (.int .i64 mx)):
 Calls Tryz.prog 140 #[.string s] w fun e w'=>e=.returned (.tuple #[.agg #[.string ⟨#[]⟩,.string ⟨#[]⟩],.int .i64 6])/\Below w.heap.size w w':=by
 have HC:=lH (fun(W:World) hW=>ng s W (mx:=mx) hW hs hc);have HM:Hid ((w.alloc (.cells #[.string ⟨#[]⟩,.string ⟨#[]⟩] 95)).cell? ⟨0,0,none⟩=some (.int .i64 mx)):=eu hm ((EK _ _).alloc (nR _) _);have htk:=fun W=>gZ p (by omega) W;rw[htok] at htk;have HT:=lH htk;clear hc hm htk htok;go_enter Tryz.func140,Tryz.ntmps140
 go_wp2_with (first|(go_at_call 174;refine(HC.out _ HM.out).mono ?_;rintro e1 w1 ⟨rfl,hb⟩;have K1:=lH ((af.new w #[.string ⟨#[]⟩,.string ⟨#[]⟩] 95).call hb);have B1:=lH (eH hb);have hl1:=K1.out.lt;clear hb;have a10:=K1.out.cell 0;have f10:=K1.out.froz 0;have a11:=K1.out.cell 1;have f11:=K1.out.froz 1;simp at a10 a11)|(go_at_call 165;refine(HT.out _).mono ?_;rintro e2 w2 ⟨rfl,hb⟩;have K2:=lH (K1.out.call hb);have B2:=lH (B1.out.trans (hb.mono B1.out.size));have hl2:=K2.out.lt;clear hb;have a20:=K2.out.cell 0;have f20:=K2.out.froz 0;have a21:=K2.out.cell 1;have f21:=K2.out.froz 1;simp at a20 a21))
 exact EW (ai Tryz.results140 _ _ _ _ rfl (E7 _ _ _ _ _ _ _ (cC K2.out _ _) Tryz.underlying95 rfl (by kernel_rfl))) rfl ⟨rfl,(B2.out.setCell (nR _) _).setCell (nR _) _⟩
theorem td (s p q:ByteArray) {mx:Int} (hs:s.size<=1000000) (hp:p.size<=1000000) (hq:q.size<=1000000) (hc:Lib.cut s.data.toList [58]=(p.data.toList,q.data.toList,true)) (htok:dY p.data.toList=true) (hval:ff q.data.toList=false) (w:World) (hm:w.cell? ⟨0,0,none⟩=some (.int .i64 mx)):
 Calls Tryz.prog 140 #[.string s] w fun e w'=>e=.returned (.tuple #[.agg #[.string ⟨#[]⟩,.string ⟨#[]⟩],.int .i64 7])/\Below w.heap.size w w':=by
 have HC:=lH (fun(W:World) hW=>ng s W (mx:=mx) hW hs hc);have HM:Hid ((w.alloc (.cells #[.string ⟨#[]⟩,.string ⟨#[]⟩] 95)).cell? ⟨0,0,none⟩=some (.int .i64 mx)):=eu hm ((EK _ _).alloc (nR _) _);have htk:=fun W=>gZ p (by omega) W;rw[htok] at htk;have HT:=lH htk;have hvl:=fun W=>gR q (by omega) W;rw[hval] at hvl;have HV:=lH hvl;clear hc hm htk htok hvl hval;go_enter Tryz.func140,Tryz.ntmps140
 go_wp2_with (first|(go_at_call 174;refine(HC.out _ HM.out).mono ?_;rintro e1 w1 ⟨rfl,hb⟩;have K1:=lH ((af.new w #[.string ⟨#[]⟩,.string ⟨#[]⟩] 95).call hb);have B1:=lH (eH hb);have hl1:=K1.out.lt;clear hb;have a10:=K1.out.cell 0;have f10:=K1.out.froz 0;have a11:=K1.out.cell 1;have f11:=K1.out.froz 1;simp at a10 a11)|(go_at_call 165;refine(HT.out _).mono ?_;rintro e2 w2 ⟨rfl,hb⟩;have K2:=lH (K1.out.call hb);have B2:=lH (B1.out.trans (hb.mono B1.out.size));have hl2:=K2.out.lt;clear hb;have a20:=K2.out.cell 0;have f20:=K2.out.froz 0;have a21:=K2.out.cell 1;have f21:=K2.out.froz 1;simp at a20 a21)|(go_at_call 169;refine(HV.out _).mono ?_;rintro e3 w3 ⟨rfl,hb⟩;have K3:=lH (K2.out.call hb);have B3:=lH (B2.out.trans (hb.mono B2.out.size));have hl3:=K3.out.lt;clear hb;have a30:=K3.out.cell 0;have f30:=K3.out.froz 0;have a31:=K3.out.cell 1;have f31:=K3.out.froz 1;simp at a30 a31))
 exact EW (ai Tryz.results140 _ _ _ _ rfl (E7 _ _ _ _ _ _ _ (cC K3.out _ _) Tryz.underlying95 rfl (by kernel_rfl))) rfl ⟨rfl,(B3.out.setCell (nR _) _).setCell (nR _) _⟩
theorem AW (s p q:ByteArray) {mx:Int} (hs:s.size<=1000000) (hp:p.size<=1000000) (hq:q.size<=1000000) (hc:Lib.cut s.data.toList [58]=(p.data.toList,q.data.toList,true)) (htok:dY p.data.toList=true) (hval:ff q.data.toList=true) (w:World) (hm:w.cell? ⟨0,0,none⟩=some (.int .i64 mx)):
 Calls Tryz.prog 140 #[.string s] w fun e w'=>e=.returned (.tuple #[.agg #[.string p,.string (aX q)],.int .i64 0])/\Below w.heap.size w w':=by
 have HC:=lH (fun(W:World) hW=>ng s W (mx:=mx) hW hs hc);have HM:Hid ((w.alloc (.cells #[.string ⟨#[]⟩,.string ⟨#[]⟩] 95)).cell? ⟨0,0,none⟩=some (.int .i64 mx)):=eu hm ((EK _ _).alloc (nR _) _);have htk:=fun W=>gZ p (by omega) W;rw[htok] at htk;have HT:=lH htk;have hvl:=fun W=>gR q (by omega) W;rw[hval] at hvl;have HV:=lH hvl;have HR:=lH (fun W=>kN q (by omega) W);obtain⟨R,hR⟩:∃R,R=aX q:=⟨_,rfl⟩;rw[<-hR] at HR ⊢;clear hc hm htk htok hvl hval hR;go_enter Tryz.func140,Tryz.ntmps140
 go_wp2_with (first|(go_at_call 174;refine(HC.out _ HM.out).mono ?_;rintro e1 w1 ⟨rfl,hb⟩;have K1:=lH ((af.new w #[.string ⟨#[]⟩,.string ⟨#[]⟩] 95).call hb);have B1:=lH (eH hb);have hl1:=K1.out.lt;clear hb;have a10:=K1.out.cell 0;have f10:=K1.out.froz 0;have a11:=K1.out.cell 1;have f11:=K1.out.froz 1;simp at a10 a11)|(go_at_call 165;refine(HT.out _).mono ?_;rintro e2 w2 ⟨rfl,hb⟩;have K2:=lH (K1.out.call hb);have B2:=lH (B1.out.trans (hb.mono B1.out.size));have hl2:=K2.out.lt;clear hb;have a20:=K2.out.cell 0;have f20:=K2.out.froz 0;have a21:=K2.out.cell 1;have f21:=K2.out.froz 1;simp at a20 a21)|(go_at_call 169;refine(HV.out _).mono ?_;rintro e3 w3 ⟨rfl,hb⟩;have K3:=lH (K2.out.call hb);have B3:=lH (B2.out.trans (hb.mono B2.out.size));have hl3:=K3.out.lt;clear hb;have a30:=K3.out.cell 0;have f30:=K3.out.froz 0;have a31:=K3.out.cell 1;have f31:=K3.out.froz 1;simp at a30 a31)|(go_at_call 172;refine(HR.out _).mono ?_;rintro e4 w4 ⟨rfl,rfl⟩))
 exact EW (ai Tryz.results140 _ _ _ _ rfl (E7 _ _ _ _ _ _ _ (cC K3.out _ _) Tryz.underlying95 rfl (by kernel_rfl))) rfl ⟨rfl,(B3.out.setCell (nR _) _).setCell (nR _) _⟩
theorem wh (s:ByteArray) (hs:s.size<=1000000) {mx:Int} (w:World) (hm:w.cell? ⟨0,0,none⟩=some (.int .i64 mx)):
 Calls Tryz.prog 140 #[.string s] w fun e w'=>e=.returned (.tuple #[.agg #[.string (aN s).1.1,.string (aN s).1.2],.int .i64 (aN s).2])/\Below w.heap.size w w':=by
 have hz:s.data.toList.length=s.size:=by simp
 have hc:=zw s.data.toList;unfold aN;by_cases h1:(bK s.data.toList).length=s.size
 ·rw[if_pos (by rw[hz];exact h1)] at hc
  rw[if_pos h1];exact v9 s s ⟨#[]⟩ hs hs (by decide) hc w hm
 ·rw[if_neg (by rw[hz];exact h1)] at hc
  rw[if_neg h1];have hp:=qT s;have hq:=qF s ((bK s.data.toList).length+1);cases ht:dY (bK s.data.toList)
  ·exact wn s ⟨(bK s.data.toList).toArray⟩ ⟨(s.data.toList.drop ((bK s.data.toList).length+1)).toArray⟩ hs (by omega) (by omega) hc ht w hm
  ·cases hv:ff (s.data.toList.drop ((bK s.data.toList).length+1))
   ·exact td s ⟨(bK s.data.toList).toArray⟩ ⟨(s.data.toList.drop ((bK s.data.toList).length+1)).toArray⟩ hs (by omega) (by omega) hc ht hv w hm
   ·exact AW s ⟨(bK s.data.toList).toArray⟩ ⟨(s.data.toList.drop ((bK s.data.toList).length+1)).toArray⟩ hs (by omega) (by omega) hc ht hv w hm
end Go.Proofs.YthjbodpeckebiaaGreatDoor
-- FrP
namespace Go.Proofs.YthjbodpeckebiaaGreatDoor
open Go.RowKit
def we:ByteArray:=⟨#[99,104,117,110,107,101,100]⟩
def pB (e:ByteArray):Bool:=(aW e).2.2==0
def mN (e:ByteArray):Bool:=decide ((aW e).1=we)
def jH (last:Bool) (e:ByteArray):Bool:=(aW e).2.2 != 0||((last != mN e)||(last&&decide (0<(aW e).2.1)))
def pc (l:List ByteArray):Bool×Int:=
 if l=[] then (false,14)
 else if (l.dropLast.any (jH false)||jH true (l.getLast?.getD ⟨#[]⟩))=true then (false,14)
 else if 1<l.length then (false,15) else (true,0)
def iz (l:List ByteArray):Nat:=(l.filter mN).length
def uC (l:List ByteArray):Bool×Int:=
 if (l.all pB=false)\/iz l≠1 then (false,14)
 else match l.getLast? with
  | none=>(false,14)
  | some e=>if mN e=false\/0<(aW e).2.1 then (false,14) else if 1<l.length then (false,15) else (true,0)
theorem mn (a b:List ByteArray):iz (a++b)=iz a+iz b:=by unfold iz;rw[List.filter_append,EY]
theorem yq {a:List ByteArray}:iz a=0↔a.all (fun e=>!mN e)=true:=by
 unfold iz;rw[GF,List.filter_eq_nil_iff,Gz];constructor
 ·intro h e he
  have:=h e he;simpa using this
 ·intro h e he
  have:=h e he;simpa using this
theorem Db (a:List ByteArray):a.any (jH false)=!(a.all pB&&a.all (fun e=>!mN e)):=by
 induction a with
 | nil=>rfl
 | cons e a ih=>
   rw[List.any_cons,List.all_cons,List.all_cons,ih]
   have:jH false e=!(pB e&&!mN e):=by
    unfold jH pB;cases h1:((aW e).2.2==0)<;>cases h2:mN e<;>simp[bne,h1]
   rw[this];cases pB e<;>cases mN e<;>cases a.all pB<;>cases a.all (fun e=>!mN e)<;>rfl
theorem CQ (l:List ByteArray):uC l=pc l:=by
 rcases List.eq_nil_or_concat l with rfl|⟨a,e,rfl⟩
 ·rfl
 rw[List.concat_eq_append];have hl:(a++[e]).getLast? = some e:=by simp
 unfold uC;rw[hl,List.all_append,mn]
 have hR:pc (a++[e])=if (a.any (jH false)||jH true e)=true then (false,14) else if 1<(a++[e]).length then (false,15) else (true,0):=by
  unfold pc;rw[if_neg (by simp),hl,List.dropLast_concat];rfl
 rw[hR,Db];have hs:([e]:List ByteArray).all pB=pB e:=by simp
 have hc:iz [e]=if mN e=true then 1 else 0:=by unfold iz;cases h:mN e<;>simp[h]
 rw[hs,hc]
 have hb:jH true e=!(pB e&&(mN e&&!decide (0<(aW e).2.1))):=by
  unfold jH pB;cases h1:((aW e).2.2==0)<;>cases h2:mN e<;>cases h3:decide (0<(aW e).2.1)<;>simp[bne,h1]
 rw[hb];have hz:=yq (a:=a);cases h1:a.all pB
 ·simp
 cases h2:pB e
 ·simp
 cases h3:mN e
 ·by_cases h4:iz a=1
  ·simp[h4,h3]
  ·simp[h4]
 by_cases h4:iz a=0
 ·rw[h4,hz.1 h4]
  by_cases h5:0<(aW e).2.1
  ·simp[h5]
  ·simp[h5,h3]
 ·have:a.all (fun e=>!mN e)=false:=by
   rw[Bool.eq_false_iff];exact fun h=>h4 (hz.2 h)
  rw[this];simp[h4]
def dN:Int->List ByteArray->Option Int
 | f,[]=>some f
 | f,p :: t=>if (am p.data.toList 10 2147483647).2≠0\/(0<=f/\(am p.data.toList 10 2147483647).1≠f) then none else dN (am p.data.toList 10 2147483647).1 t
theorem xR (l:List UInt8) (most:Int):0<=(am l 10 most).1:=by
 unfold am;split
 ·exact Gv _
 split
 ·exact Gv _
 rename_i h;split
 ·exact na (by omega) l (by simpa using h)
 ·exact Gv _
def bN:List UInt8->List UInt8->List (List UInt8)
 | a,[]=>[a]
 | a,c :: l=>if c=44 then a :: bN [] l else bN (a++[c]) l
def bs (s:ByteArray):List ByteArray:=(bN [] s.data.toList).map fun p=>⟨(cO p).toArray⟩
theorem ua:∀(l a:List UInt8),bN a l≠[]
 | [],a=>by simp[bN]
 | c :: l,a=>by
   unfold bN;split
   ·simp
   ·exact ua l _
def ay (fs:List Fd) (name:ByteArray):List ByteArray:=(fs.filter fun f=>decide (br f.1=br name)).map (·.2)
def mR:ByteArray:=⟨#[84,114,97,110,115,102,101,114,45,69,110,99,111,100,105,110,103]⟩
def mT:ByteArray:=⟨#[67,111,110,116,101,110,116,45,76,101,110,103,116,104]⟩
def zA:ByteArray:=⟨#[72,111,115,116]⟩
def bu:List ByteArray->ByteArray
 | []=>⟨#[]⟩
 | [s]=>s
 | s :: l=>s++⟨#[44,32]⟩++bu l
def fy (fs:List Fd):Bool×Int:=
 if ay fs mR=[] then (false,0) else match cA (bu (ay fs mR)) with
  | none=>(false,14)
  | some l=>pc l
def dZ (fs:List Fd):Option Int:=dN (-1) ((ay fs mT).flatMap bs)
def aQ (fs:List Fd) (minor:Int):Int×Int×Int:=
 if (fy fs).2≠0 then (0,0,(fy fs).2)
 else if (fy fs).1=true/\(minor<=0\/ay fs mT≠[]) then (0,0,14)
 else match dZ fs with
  | none=>(0,0,14)
  | some n=>if (fy fs).1=true then (2,0,0) else if 0<=n then (1,n,0) else (3,0,0)
def ir (fs:List Fd) (minor:Int):Bool:=
 match ay fs zA with
 | []=>decide (minor<=0)
 | [s]=>(eY s.data.toList).2.2==0
 | _=>false
def kT (fs:List Fd) (minor:Int):Int×Int×Int:=
 if ir fs minor=false then (0,0,13)
 else if (aQ fs minor).1=3 then (0,0,(aQ fs minor).2.2) else aQ fs minor
def dh (status:Int) (method:ByteArray):Bool:=decide (method=⟨#[72,69,65,68]⟩)||(decide (100<=status/\status<=199)||(decide (status=204)||decide (status=304)))
def fK (fs:List Fd) (minor status:Int) (method:ByteArray):Int×Int×Int:=
 if dh status method=true then (0,0,(aQ fs minor).2.2) else aQ fs minor
end Go.Proofs.YthjbodpeckebiaaGreatDoor
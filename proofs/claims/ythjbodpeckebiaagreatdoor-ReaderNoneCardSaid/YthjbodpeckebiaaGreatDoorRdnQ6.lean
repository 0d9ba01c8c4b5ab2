/- Texts packed for one claim, 6 of 48: FParse FParseW FrP. -/
import Derived.Test.YthjbodpeckebiaaGreatDoorRdnQ3
import Derived.Test.YthjbodpeckebiaaGreatDoorRdnQ4
import Derived.Test.YthjbodpeckebiaaGreatDoorRdnQ5
import Derived.Test.YthjbodpeckebiaaGreatDoorRdnShelf
set_option maxRecDepth 100000
set_option maxHeartbeats 16000000
set_option linter.unusedSimpArgs false
set_option linter.unusedVariables false
-- FParse
namespace Go.Proofs.YthjbodpeckebiaaGreatDoor
open Go.RowKit
def bo (l:List UInt8):List UInt8:=l.takeWhile fun b=>b != 58
def aR (s:ByteArray):Fd×Int:=
 if (bo s.data.toList).length=s.size then ((⟨#[]⟩,⟨#[]⟩),3)
 else if !dV (bo s.data.toList) then ((⟨#[]⟩,⟨#[]⟩),6)
 else if !gW (s.data.toList.drop ((bo s.data.toList).length+1)) then ((⟨#[]⟩,⟨#[]⟩),7)
 else ((⟨(bo s.data.toList).toArray⟩,bT ⟨(s.data.toList.drop ((bo s.data.toList).length+1)).toArray⟩),0)
theorem gq:∀l:List UInt8,Lib.index l [58]=if (bo l).length=l.length then -1 else ((bo l).length:Int)
 | []=>by simp[Lib.index,bo]
 | b :: l=>by
   have ih:=gq l;unfold Lib.index;by_cases h:b=58
   ·subst h
    simp[bo]
   ·have e1:([58]:List UInt8).isPrefixOf (b :: l)=false:=by
     simp[List.isPrefixOf,Ne.symm h]
    have e2:bo (b :: l)=b :: bo l:=by unfold bo;rw[u0];simp[h]
    rw[e1,e2,ih];simp only[t4,uP,if_false];by_cases h2:(bo l).length=l.length
    ·simp[h2]
    ·have h3:((((bo l).length:Int)==-1))=false:=by rw[tT];omega
     simp[h2,h3]
theorem sq (l:List UInt8):(bo l).length<=l.length:=(List.takeWhile_sublist _).length_le
theorem pE (l:List UInt8):l.take (bo l).length=bo l:=by
 unfold bo;exact(List.prefix_iff_eq_take.1 (List.takeWhile_prefix _)).symm
theorem oF (l:List UInt8):Lib.cut l [58]=if (bo l).length=l.length then (l,[],false) else (bo l,l.drop ((bo l).length+1),true):=by
 unfold Lib.cut;rw[gq];by_cases h:(bo l).length=l.length
 ·rw[if_pos h,if_neg (by omega),if_pos h]
 ·rw[if_neg h,if_pos (by omega),if_neg h,uc,pE]
  rfl
theorem bP {w w1:World} {mx:Int} (hm:w.cell? ⟨0,0,none⟩=some (.int .i64 mx)) (hb:Below w.heap.size w w1):w1.cell? ⟨0,0,none⟩=some (.int .i64 mx):=
 (hb.cell (p:=⟨0,0,none⟩) (t8 w _ hm)).trans hm
theorem gX (s:ByteArray) {mx:Int} (w:World) (hm:w.cell? ⟨0,0,none⟩=some (.int .i64 mx)) (hs:s.size<=1000000) {p q:ByteArray} {f:Bool} (h:Lib.cut s.data.toList [58]=(p.data.toList,q.data.toList,f)):
 Calls Tryz.prog 174 #[.string s,.string ⟨#[58]⟩] w fun e w'=>e=.returned (.tuple #[.string p,.string q,.bool f])/\Below w.heap.size w w':=
 (
  Tryz.strings_Cut s ⟨#[58]⟩ mx w (by omega) hm).mono fun e w' ⟨he,n,hw⟩=>⟨by
  have e1:(⟨#[58]⟩:ByteArray).data.toList=[58]:=rfl
  rw[he,e1,h],by rw[hw];exact bJ _ _⟩
theorem pD (s:ByteArray):(⟨(bo s.data.toList).toArray⟩:ByteArray).size<=s.size:=by
 have:=sq s.data.toList;show (bo s.data.toList).toArray.size<=_;simpa using this
theorem pC (s:ByteArray) (k:Nat):(⟨(s.data.toList.drop k).toArray⟩:ByteArray).size<=s.size:=by
 show (s.data.toList.drop k).toArray.size<=_;simp
end Go.Proofs.YthjbodpeckebiaaGreatDoor
-- FParseW
namespace Go.Proofs.YthjbodpeckebiaaGreatDoor
open Go.RowKit
theorem cb {w w1:World} {o:Obj} (h:Below (w.alloc o).heap.size (w.alloc o) w1):Below w.heap.size w w1:=((tU _ _).alloc (nR _) _).trans (h.mono (by simp))
theorem fo {w:World} {g:Nat} {t:TypeId} {x0 x1:Value} (h:ac w g #[x0,x1] t) (a b:Value):ac ((w.setCell ⟨g,0,none⟩ a).setCell ⟨g,1,none⟩ b) g #[a,b] t:=by
 have:=(h.set 0 a).set 1 b;simp at this;exact this
theorem ak {P:Program} {fn:Func} {p u:Tmp} {ty:TypeId} (h:fn.results=#[.cell p ty,.tmp u]) (tmps:Array Value) (w:World) (g:Nat) (cs:Array Value)
 (hp:tmps.getD p undef=.pointer (some ⟨g,0,none⟩)) (hl:(loadVar ty ⟨g,0,none⟩).run P w=.ok (.agg cs) w):
 (results fn tmps).run P w=.ok (.tuple #[.agg cs,tmps.getD u undef]) w:=by
 rw[results_cell_tmp h,hp];show ((loadVar ty ⟨g,0,none⟩).run P w).andThen _=_;rw[hl];rfl
theorem mV (s p q:ByteArray) {mx:Int} (hs:s.size<=1000000) (hp:p.size<=1000000) (hq:q.size<=1000000) (hc:Lib.cut s.data.toList [58]=(p.data.toList,q.data.toList,false)) (w:World) (hm:w.cell? ⟨0,0,none⟩=some (.int .i64 mx)):
 Calls Tryz.prog 140 #[.string s] w fun e w'=>e=.returned (.tuple #[.agg #[.string ⟨#[]⟩,.string ⟨#[]⟩],.int .i64 3])/\Below w.heap.size w w':=by
 have HC:=lH (fun(W:World) hW=>gX s W (mx:=mx) hW hs hc);have HM:Hid ((w.alloc (.cells #[.string ⟨#[]⟩,.string ⟨#[]⟩] 95)).cell? ⟨0,0,none⟩=some (.int .i64 mx)):=bP hm ((tU _ _).alloc (nR _) _);clear hc hm;go_enter Tryz.func140,Tryz.ntmps140
 go_wp2_with (first|(go_at_call 174;refine(HC.out _ HM.out).mono ?_;rintro e1 w1 ⟨rfl,hb⟩;have K1:=lH ((ac.new w #[.string ⟨#[]⟩,.string ⟨#[]⟩] 95).call hb);have B1:=lH (cb hb);have hl1:=K1.out.lt;clear hb;have a10:=K1.out.cell 0;have f10:=K1.out.froz 0;have a11:=K1.out.cell 1;have f11:=K1.out.froz 1;simp at a10 a11))
 exact ub (ak Tryz.results140 _ _ _ _ rfl (uh _ _ _ _ _ _ _ (fo K1.out _ _) Tryz.underlying95 rfl (by kernel_rfl))) rfl ⟨rfl,(B1.out.setCell (nR _) _).setCell (nR _) _⟩
theorem mU (s p q:ByteArray) {mx:Int} (hs:s.size<=1000000) (hp:p.size<=1000000) (hq:q.size<=1000000) (hc:Lib.cut s.data.toList [58]=(p.data.toList,q.data.toList,true)) (htok:dV p.data.toList=false) (w:World) (hm:w.cell? ⟨0,0,none⟩=some (.int .i64 mx)):
 Calls Tryz.prog 140 #[.string s] w fun e w'=>e=.returned (.tuple #[.agg #[.string ⟨#[]⟩,.string ⟨#[]⟩],.int .i64 6])/\Below w.heap.size w w':=by
 have HC:=lH (fun(W:World) hW=>gX s W (mx:=mx) hW hs hc);have HM:Hid ((w.alloc (.cells #[.string ⟨#[]⟩,.string ⟨#[]⟩] 95)).cell? ⟨0,0,none⟩=some (.int .i64 mx)):=bP hm ((tU _ _).alloc (nR _) _);have htk:=fun W=>dp p (by omega) W;rw[htok] at htk;have HT:=lH htk;clear hc hm htk htok;go_enter Tryz.func140,Tryz.ntmps140
 go_wp2_with (first|(go_at_call 174;refine(HC.out _ HM.out).mono ?_;rintro e1 w1 ⟨rfl,hb⟩;have K1:=lH ((ac.new w #[.string ⟨#[]⟩,.string ⟨#[]⟩] 95).call hb);have B1:=lH (cb hb);have hl1:=K1.out.lt;clear hb;have a10:=K1.out.cell 0;have f10:=K1.out.froz 0;have a11:=K1.out.cell 1;have f11:=K1.out.froz 1;simp at a10 a11)|(go_at_call 165;refine(HT.out _).mono ?_;rintro e2 w2 ⟨rfl,hb⟩;have K2:=lH (K1.out.call hb);have B2:=lH (B1.out.trans (hb.mono B1.out.size));have hl2:=K2.out.lt;clear hb;have a20:=K2.out.cell 0;have f20:=K2.out.froz 0;have a21:=K2.out.cell 1;have f21:=K2.out.froz 1;simp at a20 a21))
 exact ub (ak Tryz.results140 _ _ _ _ rfl (uh _ _ _ _ _ _ _ (fo K2.out _ _) Tryz.underlying95 rfl (by kernel_rfl))) rfl ⟨rfl,(B2.out.setCell (nR _) _).setCell (nR _) _⟩
theorem lO (s p q:ByteArray) {mx:Int} (hs:s.size<=1000000) (hp:p.size<=1000000) (hq:q.size<=1000000) (hc:Lib.cut s.data.toList [58]=(p.data.toList,q.data.toList,true)) (htok:dV p.data.toList=true) (hval:gW q.data.toList=false) (w:World) (hm:w.cell? ⟨0,0,none⟩=some (.int .i64 mx)):
 Calls Tryz.prog 140 #[.string s] w fun e w'=>e=.returned (.tuple #[.agg #[.string ⟨#[]⟩,.string ⟨#[]⟩],.int .i64 7])/\Below w.heap.size w w':=by
 have HC:=lH (fun(W:World) hW=>gX s W (mx:=mx) hW hs hc);have HM:Hid ((w.alloc (.cells #[.string ⟨#[]⟩,.string ⟨#[]⟩] 95)).cell? ⟨0,0,none⟩=some (.int .i64 mx)):=bP hm ((tU _ _).alloc (nR _) _);have htk:=fun W=>dp p (by omega) W;rw[htok] at htk;have HT:=lH htk;have hvl:=fun W=>dq q (by omega) W;rw[hval] at hvl;have HV:=lH hvl;clear hc hm htk htok hvl hval;go_enter Tryz.func140,Tryz.ntmps140
 go_wp2_with (first|(go_at_call 174;refine(HC.out _ HM.out).mono ?_;rintro e1 w1 ⟨rfl,hb⟩;have K1:=lH ((ac.new w #[.string ⟨#[]⟩,.string ⟨#[]⟩] 95).call hb);have B1:=lH (cb hb);have hl1:=K1.out.lt;clear hb;have a10:=K1.out.cell 0;have f10:=K1.out.froz 0;have a11:=K1.out.cell 1;have f11:=K1.out.froz 1;simp at a10 a11)|(go_at_call 165;refine(HT.out _).mono ?_;rintro e2 w2 ⟨rfl,hb⟩;have K2:=lH (K1.out.call hb);have B2:=lH (B1.out.trans (hb.mono B1.out.size));have hl2:=K2.out.lt;clear hb;have a20:=K2.out.cell 0;have f20:=K2.out.froz 0;have a21:=K2.out.cell 1;have f21:=K2.out.froz 1;simp at a20 a21)|(go_at_call 169;refine(HV.out _).mono ?_;rintro e3 w3 ⟨rfl,hb⟩;have K3:=lH (K2.out.call hb);have B3:=lH (B2.out.trans (hb.mono B2.out.size));have hl3:=K3.out.lt;clear hb;have a30:=K3.out.cell 0;have f30:=K3.out.froz 0;have a31:=K3.out.cell 1;have f31:=K3.out.froz 1;simp at a30 a31))
 exact ub (ak Tryz.results140 _ _ _ _ rfl (uh _ _ _ _ _ _ _ (fo K3.out _ _) Tryz.underlying95 rfl (by kernel_rfl))) rfl ⟨rfl,(B3.out.setCell (nR _) _).setCell (nR _) _⟩
theorem rh (s p q:ByteArray) {mx:Int} (hs:s.size<=1000000) (hp:p.size<=1000000) (hq:q.size<=1000000) (hc:Lib.cut s.data.toList [58]=(p.data.toList,q.data.toList,true)) (htok:dV p.data.toList=true) (hval:gW q.data.toList=true) (w:World) (hm:w.cell? ⟨0,0,none⟩=some (.int .i64 mx)):
 Calls Tryz.prog 140 #[.string s] w fun e w'=>e=.returned (.tuple #[.agg #[.string p,.string (bT q)],.int .i64 0])/\Below w.heap.size w w':=by
 have HC:=lH (fun(W:World) hW=>gX s W (mx:=mx) hW hs hc);have HM:Hid ((w.alloc (.cells #[.string ⟨#[]⟩,.string ⟨#[]⟩] 95)).cell? ⟨0,0,none⟩=some (.int .i64 mx)):=bP hm ((tU _ _).alloc (nR _) _);have htk:=fun W=>dp p (by omega) W;rw[htok] at htk;have HT:=lH htk;have hvl:=fun W=>dq q (by omega) W;rw[hval] at hvl;have HV:=lH hvl;have HR:=lH (fun W=>fL q (by omega) W);obtain⟨R,hR⟩:∃R,R=bT q:=⟨_,rfl⟩;rw[<-hR] at HR ⊢;clear hc hm htk htok hvl hval hR;go_enter Tryz.func140,Tryz.ntmps140
 go_wp2_with (first|(go_at_call 174;refine(HC.out _ HM.out).mono ?_;rintro e1 w1 ⟨rfl,hb⟩;have K1:=lH ((ac.new w #[.string ⟨#[]⟩,.string ⟨#[]⟩] 95).call hb);have B1:=lH (cb hb);have hl1:=K1.out.lt;clear hb;have a10:=K1.out.cell 0;have f10:=K1.out.froz 0;have a11:=K1.out.cell 1;have f11:=K1.out.froz 1;simp at a10 a11)|(go_at_call 165;refine(HT.out _).mono ?_;rintro e2 w2 ⟨rfl,hb⟩;have K2:=lH (K1.out.call hb);have B2:=lH (B1.out.trans (hb.mono B1.out.size));have hl2:=K2.out.lt;clear hb;have a20:=K2.out.cell 0;have f20:=K2.out.froz 0;have a21:=K2.out.cell 1;have f21:=K2.out.froz 1;simp at a20 a21)|(go_at_call 169;refine(HV.out _).mono ?_;rintro e3 w3 ⟨rfl,hb⟩;have K3:=lH (K2.out.call hb);have B3:=lH (B2.out.trans (hb.mono B2.out.size));have hl3:=K3.out.lt;clear hb;have a30:=K3.out.cell 0;have f30:=K3.out.froz 0;have a31:=K3.out.cell 1;have f31:=K3.out.froz 1;simp at a30 a31)|(go_at_call 172;refine(HR.out _).mono ?_;rintro e4 w4 ⟨rfl,rfl⟩))
 exact ub (ak Tryz.results140 _ _ _ _ rfl (uh _ _ _ _ _ _ _ (fo K3.out _ _) Tryz.underlying95 rfl (by kernel_rfl))) rfl ⟨rfl,(B3.out.setCell (nR _) _).setCell (nR _) _⟩
theorem mw (s:ByteArray) (hs:s.size<=1000000) {mx:Int} (w:World) (hm:w.cell? ⟨0,0,none⟩=some (.int .i64 mx)):
 Calls Tryz.prog 140 #[.string s] w fun e w'=>e=.returned (.tuple #[.agg #[.string (aR s).1.1,.string (aR s).1.2],.int .i64 (aR s).2])/\Below w.heap.size w w':=by
 have hz:s.data.toList.length=s.size:=by simp
 have hc:=oF s.data.toList;unfold aR;by_cases h1:(bo s.data.toList).length=s.size
 ·rw[if_pos (by rw[hz];exact h1)] at hc
  rw[if_pos h1];exact mV s s ⟨#[]⟩ hs hs (by decide) hc w hm
 ·rw[if_neg (by rw[hz];exact h1)] at hc
  rw[if_neg h1];have hp:=pD s;have hq:=pC s ((bo s.data.toList).length+1);cases ht:dV (bo s.data.toList)
  ·exact mU s ⟨(bo s.data.toList).toArray⟩ ⟨(s.data.toList.drop ((bo s.data.toList).length+1)).toArray⟩ hs (by omega) (by omega) hc ht w hm
  ·cases hv:gW (s.data.toList.drop ((bo s.data.toList).length+1))
   ·exact lO s ⟨(bo s.data.toList).toArray⟩ ⟨(s.data.toList.drop ((bo s.data.toList).length+1)).toArray⟩ hs (by omega) (by omega) hc ht hv w hm
   ·exact rh s ⟨(bo s.data.toList).toArray⟩ ⟨(s.data.toList.drop ((bo s.data.toList).length+1)).toArray⟩ hs (by omega) (by omega) hc ht hv w hm
end Go.Proofs.YthjbodpeckebiaaGreatDoor
-- FrP
namespace Go.Proofs.YthjbodpeckebiaaGreatDoor
open Go.RowKit
def oC:ByteArray:=⟨#[99,104,117,110,107,101,100]⟩
def jj (e:ByteArray):Bool:=(aF e).2.2==0
def iY (e:ByteArray):Bool:=decide ((aF e).1=oC)
def kK (last:Bool) (e:ByteArray):Bool:=(aF e).2.2 != 0||((last != iY e)||(last&&decide (0<(aF e).2.1)))
def r6 (l:List ByteArray):Bool×Int:=
 if l=[] then (false,14)
 else if (l.dropLast.any (kK false)||kK true (l.getLast?.getD ⟨#[]⟩))=true then (false,14)
 else if 1<l.length then (false,15) else (true,0)
def dB (l:List ByteArray):Nat:=(l.filter iY).length
def mo (l:List ByteArray):Bool×Int:=
 if (l.all jj=false)\/dB l≠1 then (false,14)
 else match l.getLast? with
  | none=>(false,14)
  | some e=>if iY e=false\/0<(aF e).2.1 then (false,14) else if 1<l.length then (false,15) else (true,0)
theorem gp (a b:List ByteArray):dB (a++b)=dB a+dB b:=by unfold dB;rw[List.filter_append,ue]
theorem oE {a:List ByteArray}:dB a=0↔a.all (fun e=>!iY e)=true:=by
 unfold dB;rw[List.length_eq_zero_iff,List.filter_eq_nil_iff,List.all_eq_true];constructor
 ·intro h e he
  have:=h e he;simpa using this
 ·intro h e he
  have:=h e he;simpa using this
theorem rV (a:List ByteArray):a.any (kK false)=!(a.all jj&&a.all (fun e=>!iY e)):=by
 induction a with
 | nil=>rfl
 | cons e a ih=>
   rw[List.any_cons,List.all_cons,List.all_cons,ih]
   have:kK false e=!(jj e&&!iY e):=by
    unfold kK jj;cases h1:((aF e).2.2==0)<;>cases h2:iY e<;>simp[bne,h1]
   rw[this];cases jj e<;>cases iY e<;>cases a.all jj<;>cases a.all (fun e=>!iY e)<;>rfl
theorem sa (l:List ByteArray):mo l=r6 l:=by
 rcases List.eq_nil_or_concat l with rfl|⟨a,e,rfl⟩
 ·rfl
 rw[List.concat_eq_append];have hl:(a++[e]).getLast? = some e:=by simp
 unfold mo;rw[hl,List.all_append,gp]
 have hR:r6 (a++[e])=if (a.any (kK false)||kK true e)=true then (false,14) else if 1<(a++[e]).length then (false,15) else (true,0):=by
  unfold r6;rw[if_neg (by simp),hl,List.dropLast_concat];rfl
 rw[hR,rV];have hs:([e]:List ByteArray).all jj=jj e:=by simp
 have hc:dB [e]=if iY e=true then 1 else 0:=by unfold dB;cases h:iY e<;>simp[h]
 rw[hs,hc]
 have hb:kK true e=!(jj e&&(iY e&&!decide (0<(aF e).2.1))):=by
  unfold kK jj;cases h1:((aF e).2.2==0)<;>cases h2:iY e<;>cases h3:decide (0<(aF e).2.1)<;>simp[bne,h1]
 rw[hb];have hz:=oE (a:=a);cases h1:a.all jj
 ·simp
 cases h2:jj e
 ·simp
 cases h3:iY e
 ·by_cases h4:dB a=1
  ·simp[h4,h3]
  ·simp[h4]
 by_cases h4:dB a=0
 ·rw[h4,hz.1 h4]
  by_cases h5:0<(aF e).2.1
  ·simp[h5]
  ·simp[h5,h3]
 ·have:a.all (fun e=>!iY e)=false:=by
   rw[Bool.eq_false_iff];exact fun h=>h4 (hz.2 h)
  rw[this];simp[h4]
def cS:Int->List ByteArray->Option Int
 | f,[]=>some f
 | f,p :: t=>if (al p.data.toList 10 2147483647).2≠0\/(0<=f/\(al p.data.toList 10 2147483647).1≠f) then none else cS (al p.data.toList 10 2147483647).1 t
def bC:List UInt8->List UInt8->List (List UInt8)
 | a,[]=>[a]
 | a,c :: l=>if c=44 then a :: bC [] l else bC (a++[c]) l
def bf (s:ByteArray):List ByteArray:=(bC [] s.data.toList).map fun p=>⟨(bU p).toArray⟩
def aJ (fs:List Fd) (name:ByteArray):List ByteArray:=(fs.filter fun f=>decide (aS f.1=aS name)).map (·.2)
def rE:ByteArray:=⟨#[84,114,97,110,115,102,101,114,45,69,110,99,111,100,105,110,103]⟩
def qg:ByteArray:=⟨#[67,111,110,116,101,110,116,45,76,101,110,103,116,104]⟩
def sT:ByteArray:=⟨#[72,111,115,116]⟩
def bB:List ByteArray->ByteArray
 | []=>⟨#[]⟩
 | [s]=>s
 | s :: l=>s++⟨#[44,32]⟩++bB l
def fV (fs:List Fd):Bool×Int:=
 if aJ fs rE=[] then (false,0) else match cx (bB (aJ fs rE)) with
  | none=>(false,14)
  | some l=>r6 l
def dS (fs:List Fd):Option Int:=cS (-1) ((aJ fs qg).flatMap bf)
def bX (fs:List Fd) (minor:Int):Int×Int×Int:=
 if (fV fs).2≠0 then (0,0,(fV fs).2)
 else if (fV fs).1=true/\(minor<=0\/aJ fs qg≠[]) then (0,0,14)
 else match dS fs with
  | none=>(0,0,14)
  | some n=>if (fV fs).1=true then (2,0,0) else if 0<=n then (1,n,0) else (3,0,0)
def ev (fs:List Fd) (minor:Int):Bool:=
 match aJ fs sT with
 | []=>decide (minor<=0)
 | [s]=>(fw s.data.toList).2.2==0
 | _=>false
def nb (fs:List Fd) (minor:Int):Int×Int×Int:=
 if ev fs minor=false then (0,0,13)
 else if (bX fs minor).1=3 then (0,0,(bX fs minor).2.2) else bX fs minor
def eu (status:Int) (method:ByteArray):Bool:=decide (method=⟨#[72,69,65,68]⟩)||(decide (100<=status/\status<=199)||(decide (status=204)||decide (status=304)))
def gy (fs:List Fd) (minor status:Int) (method:ByteArray):Int×Int×Int:=
 if eu status method=true then (0,0,(bX fs minor).2.2) else bX fs minor
end Go.Proofs.YthjbodpeckebiaaGreatDoor
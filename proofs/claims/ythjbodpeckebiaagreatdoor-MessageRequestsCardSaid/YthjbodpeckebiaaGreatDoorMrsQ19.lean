/- Texts packed for one claim, 19 of 52: RHParse HFew Lns HpPlain See. -/
import Derived.Test.YthjbodpeckebiaaGreatDoorMrsQ17
import Derived.Deep.Cut
import Derived.Test.YthjbodpeckebiaaGreatDoorMrsQ18
set_option maxRecDepth 100000
set_option maxHeartbeats 16000000
set_option linter.unusedSimpArgs false
set_option linter.unusedVariables false
-- RHParse
namespace Go.Proofs.YthjbodpeckebiaaGreatDoor
open Go.RowKit
theorem ig {w:World} {g g':Nat} {cs:Array Value} {t:TypeId} (h:af w g' cs t) (hne:g'≠g) (a b c d e f:Value):af (Cj w g a b c d e f) g' cs t:=
 (((((h.far (p:=⟨g,0,none⟩) hne a).far (p:=⟨g,1,none⟩) hne b).far (p:=⟨g,2,none⟩) hne c).far (p:=⟨g,3,none⟩) hne d).far (p:=⟨g,4,none⟩) hne e).far (p:=⟨g,5,none⟩) hne f
theorem dl (id:Nat) {P:Program} {ops:Array Oper} {b:Bool} {Q:Exit->Act->World->Prop} {a:Act} {w:World} (h:∀w',w'=w->(Code.region id ops b).wp P Q a w'):(Code.region id ops b).wp P Q a w:=h w rfl
theorem tY (kind a fields c d fold:Int) (h1:kind≠1) (h2:kind≠2) (v:Value) (w:World):
 Calls Tryz.prog 82 #[.int .i64 kind,.agg #[.int .i64 a,.int .i64 fields,.int .i64 c,.int .i64 d,.int .i64 fold],v] w fun e w'=>e=.returned (.tuple #[.agg (cN.row cx),.int .i64 1])/\Below w.heap.size w w':=by
 have e1:(kind != 1)=true:=by simpa using h1
 have e2:(kind != 2)=true:=by simpa using h2
 have HB:=lH (dr w (.cells #[.int .i64 a,.int .i64 fields,.int .i64 c,.int .i64 d,.int .i64 fold] 24) (.cells #[.string ⟨#[]⟩,.string ⟨#[]⟩,.int .i64 0,.int .i64 0,.string ⟨#[]⟩,.slice none 0 0] 44));have HZ:=lH (cM w #[.int .i64 a,.int .i64 fields,.int .i64 c,.int .i64 d,.int .i64 fold] #[.string ⟨#[]⟩,.string ⟨#[]⟩,.int .i64 0,.int .i64 0,.string ⟨#[]⟩,.slice none 0 0] 24 44);clear h1 h2;go_enter Tryz.func82,Tryz.ntmps82
 go_wp2_with fail
 exact EW (ai Tryz.results82 _ _ _ _ rfl (E7 _ _ _ _ _ _ _ HZ.out Tryz.underlying44 rfl (by kernel_rfl))) rfl ⟨rfl,HB.out⟩
theorem sB (kind a fields c d fold:Int) (h1:kind=1\/kind=2) (p:Option Addr) (cc:Nat) (w:World):
 Calls Tryz.prog 82 #[.int .i64 kind,.agg #[.int .i64 a,.int .i64 fields,.int .i64 c,.int .i64 d,.int .i64 fold],.slice p 0 cc] w fun e w'=>e=.returned (.tuple #[.agg (cN.row cx),.int .i64 2])/\Below w.heap.size w w':=by
 have HB:=lH (dr w (.cells #[.int .i64 a,.int .i64 fields,.int .i64 c,.int .i64 d,.int .i64 fold] 24) (.cells #[.string ⟨#[]⟩,.string ⟨#[]⟩,.int .i64 0,.int .i64 0,.string ⟨#[]⟩,.slice none 0 0] 44));have HZ:=lH (cM w #[.int .i64 a,.int .i64 fields,.int .i64 c,.int .i64 d,.int .i64 fold] #[.string ⟨#[]⟩,.string ⟨#[]⟩,.int .i64 0,.int .i64 0,.string ⟨#[]⟩,.slice none 0 0] 24 44);rcases h1 with rfl|rfl
 all_goals
  go_enter Tryz.func82,Tryz.ntmps82
  go_wp2_with fail
  exact EW (ai Tryz.results82 _ _ _ _ rfl (E7 _ _ _ _ _ _ _ HZ.out Tryz.underlying44 rfl (by kernel_rfl))) rfl ⟨rfl,HB.out⟩
theorem tT (a fields c d fold:Int) (b off m cc:Nat) (s:ByteArray) (rest:List ByteArray) (w:World) (hS:cQ w (.slice (some ⟨b,off,none⟩) (m+1) cc) (s :: rest)) (hcap:m+1<=cc) (hn:m<=100000) (ht:dX (s :: rest)<=100000):
 Calls Tryz.prog 82 #[.int .i64 1,.agg #[.int .i64 a,.int .i64 fields,.int .i64 c,.int .i64 d,.int .i64 fold],.slice (some ⟨b,off,none⟩) (m+1) cc] w fun e w'=>∃f,e=.returned (.tuple #[.agg ((aH 1 fields fold (s :: rest)).1.row f),.int .i64 (aH 1 fields fold (s :: rest)).2])/\ao w' w.heap.size f (aH 1 fields fold (s :: rest)).1.fs/\Below w.heap.size w w':=by
 obtain⟨hmr,hs0,htl,htl0⟩:=hS.tail;have hts:s.size<=100000:=by rw[bX] at ht;omega
 have htr:dX rest<=100000:=by rw[bX] at ht;omega
 obtain⟨A,hA⟩:∃A,bP 1 s=A:=⟨_,rfl⟩;have hAfs:A.1.fs=[]:=by rw[<-hA];exact lM _ _
 have hAn:A.1.n=0:=by rw[<-hA];rfl
 have hAr:A.1.r=⟨#[]⟩:=by rw[<-hA];rfl
 have hQ:=fun(W:World)=>kG s hts (m:=A.1.m) (t:=A.1.t) (k:=A.1.k) (e:=A.2) (by rw[<-hA];rfl) W
 have hP:aH 1 fields fold (s :: rest)=if A.2≠0 then (cN,A.2) else if fields<(rest.length:Int) then (cN,4) else if (bq fold rest).2≠0 then (cN,(bq fold rest).2) else ({ A.1 with fs:=(bq fold rest).1 },0):=by
  unfold aH;rw[if_neg (by decide)];show (if (bP 1 s).2≠0 then (cN,(bP 1 s).2) else _)=_;rw[hA]
 obtain⟨⟨m1,t1,k1,n1,r1,fs1⟩,e1⟩:=A;have hAfs:fs1=[]:=hAfs;subst hAfs;have hAn:n1=0:=hAn;have hAr:r1=⟨#[]⟩:=hAr;subst hAn hAr;have HQ:=lH hQ;have HP:=lH hP;have HTL:=lH (And.intro htl htl0);have HTR:=lH htr;have HMR:=lH hmr;have hwm:wrap64 (m:Int)=m:=FY _ ⟨GN (by decide) (Int.natCast_nonneg m),GN (Int.ofNat_le.2 hn) (by decide)⟩;have hs1:=lH (fun W (hW:Below w.heap.size w W)=>(bL hW b off (ET _ _ hs0)).trans hs0);have hs2:=hs1.out _ (dr w (.cells #[.int .i64 a,.int .i64 fields,.int .i64 c,.int .i64 d,.int .i64 fold] 24) (.cells #[.string ⟨#[]⟩,.string ⟨#[]⟩,.int .i64 0,.int .i64 0,.string ⟨#[]⟩,.slice none 0 0] 44));have hi0:(0:Int)<(m:Int)+1:=by omega
 have hne0:((m:Int)+1==0)=false:=by rw[EJ];omega
 clear hA hQ hP hS htl htl0 htr ht hts hs0 hmr;by_cases he1:e1=0
 rotate_left
 ·have he2:(e1 != 0)=true:=by simpa using he1
  have he3:(e1==0)=false:=by simpa using he1
  have hR:aH 1 fields fold (s :: rest)=(cN,e1):=by rw[HP.out,if_pos he1]
  have HR:=lH hR;clear hR he1;go_enter Tryz.func82,Tryz.ntmps82
  go_wp2_with (go_at_call 98;refine(HQ.out _).mono ?_;rintro e1 w2 ⟨rfl,hb⟩;have KL:=lH (((af.new w #[.int .i64 a,.int .i64 fields,.int .i64 c,.int .i64 d,.int .i64 fold] 24).alloc (.cells #[.string ⟨#[]⟩,.string ⟨#[]⟩,.int .i64 0,.int .i64 0,.string ⟨#[]⟩,.slice none 0 0] 44)).call hb);have KZ:=lH ((cM w #[.int .i64 a,.int .i64 fields,.int .i64 c,.int .i64 d,.int .i64 fold] #[.string ⟨#[]⟩,.string ⟨#[]⟩,.int .i64 0,.int .i64 0,.string ⟨#[]⟩,.slice none 0 0] 24 44).call hb);have B2:=lH (bZ hb);have hz2:=hb.size;clear hb;(try simp at hz2);have KL3:=lH (KL.out.alloc (.cells #[.string m1,.string t1,.int .i64 k1,.int .i64 0,.string ⟨#[]⟩,.slice none 0 0] 44));have KZ3:=lH (KZ.out.alloc (.cells #[.string m1,.string t1,.int .i64 k1,.int .i64 0,.string ⟨#[]⟩,.slice none 0 0] 44));have z0:=KZ3.out.cell 0;have zf0:=KZ3.out.froz 0;have z1:=KZ3.out.cell 1;have zf1:=KZ3.out.froz 1;have z2:=KZ3.out.cell 2;have zf2:=KZ3.out.froz 2;have z3:=KZ3.out.cell 3;have zf3:=KZ3.out.froz 3;have z4:=KZ3.out.cell 4;have zf4:=KZ3.out.froz 4;have z5:=KZ3.out.cell 5;have zf5:=KZ3.out.froz 5;simp at z0 z1 z2 z3 z4 z5)
  exact EW (ai Tryz.results82 _ _ _ _ rfl (E7 _ _ _ _ _ _ _ (bF KZ3.out _ _ _ _ _ _) Tryz.underlying44 rfl (by kernel_rfl))) rfl ⟨cx,by rw[HR.out];rfl,by rw[HR.out];exact ao.start _ _,aR (B2.out.alloc B2.out.size _) (FV _) _ _ _ _ _ _⟩
 subst he1;by_cases hlo:fields<(m:Int)
 ·have hlo2:decide (fields<(m:Int))=true:=dT hlo
  have hR:aH 1 fields fold (s :: rest)=(cN,4):=by rw[HP.out,if_neg (by simp),if_pos (by rw[<-HMR.out];exact hlo)]
  have HR:=lH hR;clear hR;go_enter Tryz.func82,Tryz.ntmps82
  go_wp2_with (go_at_call 98;refine(HQ.out _).mono ?_;rintro e1 w2 ⟨rfl,hb⟩;have KL:=lH (((af.new w #[.int .i64 a,.int .i64 fields,.int .i64 c,.int .i64 d,.int .i64 fold] 24).alloc (.cells #[.string ⟨#[]⟩,.string ⟨#[]⟩,.int .i64 0,.int .i64 0,.string ⟨#[]⟩,.slice none 0 0] 44)).call hb);have KZ:=lH ((cM w #[.int .i64 a,.int .i64 fields,.int .i64 c,.int .i64 d,.int .i64 fold] #[.string ⟨#[]⟩,.string ⟨#[]⟩,.int .i64 0,.int .i64 0,.string ⟨#[]⟩,.slice none 0 0] 24 44).call hb);have B2:=lH (bZ hb);have hz2:=hb.size;clear hb;(try simp at hz2);have KL3:=lH (KL.out.alloc (.cells #[.string m1,.string t1,.int .i64 k1,.int .i64 0,.string ⟨#[]⟩,.slice none 0 0] 44));have KZ3:=lH (KZ.out.alloc (.cells #[.string m1,.string t1,.int .i64 k1,.int .i64 0,.string ⟨#[]⟩,.slice none 0 0] 44));have z0:=KZ3.out.cell 0;have zf0:=KZ3.out.froz 0;have z1:=KZ3.out.cell 1;have zf1:=KZ3.out.froz 1;have z2:=KZ3.out.cell 2;have zf2:=KZ3.out.froz 2;have z3:=KZ3.out.cell 3;have zf3:=KZ3.out.froz 3;have z4:=KZ3.out.cell 4;have zf4:=KZ3.out.froz 4;have z5:=KZ3.out.cell 5;have zf5:=KZ3.out.froz 5;simp at z0 z1 z2 z3 z4 z5;have q0:=KL3.out.cell 0;have qf0:=KL3.out.froz 0;have q1:=KL3.out.cell 1;have qf1:=KL3.out.froz 1;have q2:=KL3.out.cell 2;have qf2:=KL3.out.froz 2;have q3:=KL3.out.cell 3;have qf3:=KL3.out.froz 3;have q4:=KL3.out.cell 4;have qf4:=KL3.out.froz 4;simp at q0 q1 q2 q3 q4)
  exact EW (ai Tryz.results82 _ _ _ _ rfl (E7 _ _ _ _ _ _ _ (bF KZ3.out _ _ _ _ _ _) Tryz.underlying44 rfl (by kernel_rfl))) rfl ⟨cx,by rw[HR.out];rfl,by rw[HR.out];exact ao.start _ _,aR (B2.out.alloc B2.out.size _) (FV _) _ _ _ _ _ _⟩
 have hlo2:decide (fields<(m:Int))=false:=dF hlo;have hR:aH 1 fields fold (s :: rest)=if (bq fold rest).2≠0 then (cN,(bq fold rest).2) else (⟨m1,t1,k1,0,⟨#[]⟩,(bq fold rest).1⟩,0):=by rw[HP.out,if_neg (by simp),if_neg (by rw[<-HMR.out];exact hlo)]
 have HR:=lH hR;clear hR hlo HP;obtain⟨tp,htp⟩:∃tp,tp=(if cc=1 then some (⟨b,off,none⟩:Addr) else some ⟨b,off+1,none⟩):=⟨_,rfl⟩
 have htS:cQ w (.slice tp m (cc - 1)) rest:=by
  by_cases hc1:cc=1
  ·have:m=0:=by omega
   subst this;exact HTL.out.2 rfl _ _
  ·rw[htp,if_neg hc1];exact HTL.out.1 _
 have HTS:=lH htS;have HTP:=lH htp;obtain⟨⟨F,ef⟩,hAF⟩:∃x,bq fold rest=x:=⟨_,rfl⟩;have HFA:=lH (fun(V:World) (hV:Below w.heap.size w V)=>lG fold (.slice tp m (cc - 1)) rest V (htS.below hV) (by have:=HMR.out;omega) (by have:=HTR.out;omega));rw[hAF] at HFA HR;have HI1:=lH (show (1:Int)<=(m:Int)+1 by omega);clear htS htp hAF;go_enter Tryz.func82,Tryz.ntmps82
 go_wp2_with (go_at_call 98;refine(HQ.out _).mono ?_;rintro e1 w2 ⟨rfl,hb⟩;have KL:=lH (((af.new w #[.int .i64 a,.int .i64 fields,.int .i64 c,.int .i64 d,.int .i64 fold] 24).alloc (.cells #[.string ⟨#[]⟩,.string ⟨#[]⟩,.int .i64 0,.int .i64 0,.string ⟨#[]⟩,.slice none 0 0] 44)).call hb);have KZ:=lH ((cM w #[.int .i64 a,.int .i64 fields,.int .i64 c,.int .i64 d,.int .i64 fold] #[.string ⟨#[]⟩,.string ⟨#[]⟩,.int .i64 0,.int .i64 0,.string ⟨#[]⟩,.slice none 0 0] 24 44).call hb);have B2:=lH (bZ hb);have hz2:=hb.size;clear hb;(try simp at hz2);have KL3:=lH (KL.out.alloc (.cells #[.string m1,.string t1,.int .i64 k1,.int .i64 0,.string ⟨#[]⟩,.slice none 0 0] 44));have KZ3:=lH (KZ.out.alloc (.cells #[.string m1,.string t1,.int .i64 k1,.int .i64 0,.string ⟨#[]⟩,.slice none 0 0] 44));have q0:=KL3.out.cell 0;have qf0:=KL3.out.froz 0;have q1:=KL3.out.cell 1;have qf1:=KL3.out.froz 1;have q2:=KL3.out.cell 2;have qf2:=KL3.out.froz 2;have q3:=KL3.out.cell 3;have qf3:=KL3.out.froz 3;have q4:=KL3.out.cell 4;have qf4:=KL3.out.froz 4;simp at q0 q1 q2 q3 q4)
 refine bm (S:=fun v=>af v w.heap.size #[.int .i64 a,.int .i64 fields,.int .i64 c,.int .i64 d,.int .i64 fold] 24) (by kernel_rfl) ?_;intro V0 hV0;have h0:af V0 w.heap.size #[.int .i64 a,.int .i64 fields,.int .i64 c,.int .i64 d,.int .i64 fold] 24:=by rw[hV0];exact KL3.out.drew
 have HS:Hid (B7 w #[.int .i64 a,.int .i64 fields,.int .i64 c,.int .i64 d,.int .i64 fold] #[.string m1,.string t1,.int .i64 k1,.int .i64 0,.string ⟨#[]⟩,.slice none 0 0] w2.heap.size V0):=by
  show B7 _ _ _ _ _;rw[hV0];exact⟨KL3.out.drew,KZ3.out.drew,(af.new _ _ _).drew,(B2.out.alloc B2.out.size _).drew,by omega⟩
 clear hV0 KL KZ KL3 KZ3 B2 hlo2;refine EL (i:=0) (v:=.pointer (some ⟨w.heap.size,4,none⟩)) rfl (by kernel_rfl) (by kernel_rfl) (by kernel_rfl) (fun _ _ _ h=>h) (Or.inl ⟨by kernel_rfl,?hy1⟩) h0 ?rest1
 case hy1=>
  intro v hv;clear hv;go_simp
 (try simp only[Act.put,lS,lZ,lC])
 refine EL (i:=1) (v:=.int .i64 fold) rfl (by kernel_rfl) (by kernel_rfl) (by kernel_rfl) (fun _ _ _ h=>h) (Or.inl ⟨by kernel_rfl,?hy2⟩) h0 ?rest2
 case hy2=>
  intro v hv;have q:=hv.cell 4;simp at q;clear hv;go_simp
 (try simp only[Act.put,lS,lZ,lC])
 refine EL (i:=2) (v:=.slice (some ⟨b,off,none⟩) (m+1) cc) rfl (by kernel_rfl) (by kernel_rfl) (by kernel_rfl) (fun _ _ _ h=>h) (Or.inl ⟨by kernel_rfl,?hy3⟩) h0 ?rest3
 case hy3=>
  intro v hv;clear hv;go_simp
 (try simp only[Act.put,lS,lZ,lC])
 refine EL (i:=3) (v:=.slice tp m (cc - 1)) rfl (by kernel_rfl) (by kernel_rfl) (by kernel_rfl) (fun _ _ _ h=>h) (Or.inl ⟨by kernel_rfl,?hy4⟩) h0 ?rest4
 case hy4=>
  intro v hv;clear hv;go_simp;rw[if_pos HI1.out,HTP.out]
 (try simp only[Act.put,lS,lZ,lC])
 refine Fe (rs:=[4]) (by kernel_rfl) (by simp) ?_;refine EZ rfl (fun K hK=>?_) E9;go_simp;refine(HFA.out _ HS.out.u).mono ?_;rintro e V1 ⟨f,rfl,hof,hb1⟩;obtain⟨pf,cf,rfl⟩:=aC hof;have HS1:=lH (HS.out.below hb1);have HO1:=lH hof;have h1:=h0.call hb1;have HLT:=lH HS.out.h.lt;have HLE:=lH HS.out.u.size;clear hof hb1 h0;refine hK _ _ h1 (fun _=>?_);clear hK K;(try simp only[Act.put,lS,lZ,lC])
 refine EL (i:=5) (v:=.tuple #[.slice pf F.length cf,.int .i64 ef]) rfl (by kernel_rfl) (by kernel_rfl) (by kernel_rfl) (fun _ _ _ h=>h) (Or.inl ⟨by kernel_rfl,?hy5⟩) h1 ?rest5
 case hy5=>
  intro v hv;clear hv;go_simp
 (try simp only[Act.put,lS,lZ,lC])
 refine EL (i:=6) (v:=.slice pf F.length cf) rfl (by kernel_rfl) (by kernel_rfl) (by kernel_rfl) (fun _ _ _ h=>h) (Or.inl ⟨by kernel_rfl,?hy6⟩) h1 ?rest6
 case hy6=>
  intro v hv;clear hv;go_simp
 (try simp only[Act.put,lS,lZ,lC])
 refine EL (i:=7) (v:=.int .i64 ef) rfl (by kernel_rfl) (by kernel_rfl) (by kernel_rfl) (fun _ _ _ h=>h) (Or.inl ⟨by kernel_rfl,?hy7⟩) h1 ?rest7
 case hy7=>
  intro v hv;clear hv;go_simp
 (try simp only[Act.put,lS,lZ,lC])
 refine Fe (rs:=[8]) (by kernel_rfl) (by simp) ?_;refine EZ rfl (fun K hK=>?_) E9;go_simp;refine hK _ _ h1 (fun _=>?_);clear hK K;(try simp only[Act.put,lS,lZ,lC])
 refine Fe (rs:=[9]) (by kernel_rfl) (by simp) ?_;refine EZ rfl (fun K hK=>?_) E9;go_simp;refine hK _ _ h1 (fun _=>?_);clear hK K;(try simp only[Act.put,lS,lZ,lC])
 refine wpAnyH_done (by kernel_rfl) ?_ _;have HNE:=lH HS1.out.lt;have HLS:=lH (Nat.lt_trans HS1.out.lt HLT.out);clear h1 HS;by_cases hef:ef=0
 ·subst hef
  have KH0:af (V1.setCell ⟨w2.heap.size,5,none⟩ (.slice pf F.length cf)) w2.heap.size #[.string m1,.string t1,.int .i64 k1,.int .i64 0,.string ⟨#[]⟩,.slice pf F.length cf] 44:=by
   have:=HS1.out.h.set 5 (.slice pf F.length cf);simpa using this
  have HKH:=lH KH0;clear KH0;have HKZ:=lH (HS1.out.z.far (p:=⟨w2.heap.size,5,none⟩) (Nat.ne_of_lt HNE.out) (.slice pf F.length cf));have HKO:=lH (aD HO1.out HLT.out 5 (.slice pf F.length cf));have HKU:=lH (HS1.out.u.setCell (p:=⟨w2.heap.size,5,none⟩) (Nat.le_of_lt (Nat.lt_of_succ_lt HNE.out)) (.slice pf F.length cf));have a5:=HS1.out.h.cell 5;have a5f:=HS1.out.h.froz 5;simp at a5;have z0:(V1.setCell ⟨w2.heap.size,5,none⟩ (.slice pf F.length cf)).cell? ⟨w.heap.size+1,0,none⟩=some (.string ⟨#[]⟩):=HKZ.out.cell 0;have zf0:=HKZ.out.froz 0;have z1:(V1.setCell ⟨w2.heap.size,5,none⟩ (.slice pf F.length cf)).cell? ⟨w.heap.size+1,1,none⟩=some (.string ⟨#[]⟩):=HKZ.out.cell 1;have zf1:=HKZ.out.froz 1;have z2:(V1.setCell ⟨w2.heap.size,5,none⟩ (.slice pf F.length cf)).cell? ⟨w.heap.size+1,2,none⟩=some (.int .i64 0):=HKZ.out.cell 2;have zf2:=HKZ.out.froz 2;have z3:(V1.setCell ⟨w2.heap.size,5,none⟩ (.slice pf F.length cf)).cell? ⟨w.heap.size+1,3,none⟩=some (.int .i64 0):=HKZ.out.cell 3;have zf3:=HKZ.out.froz 3;have z4:(V1.setCell ⟨w2.heap.size,5,none⟩ (.slice pf F.length cf)).cell? ⟨w.heap.size+1,4,none⟩=some (.string ⟨#[]⟩):=HKZ.out.cell 4;have zf4:=HKZ.out.froz 4;have z5:(V1.setCell ⟨w2.heap.size,5,none⟩ (.slice pf F.length cf)).cell? ⟨w.heap.size+1,5,none⟩=some (.slice none 0 0):=HKZ.out.cell 5;have zf5:=HKZ.out.froz 5;have g0:(V1.setCell ⟨w2.heap.size,5,none⟩ (.slice pf F.length cf)).cell? ⟨w2.heap.size,0,none⟩=some (.string m1):=HKH.out.cell 0
  have g1:(V1.setCell ⟨w2.heap.size,5,none⟩ (.slice pf F.length cf)).cell? ⟨w2.heap.size,1,none⟩=some (.string t1):=HKH.out.cell 1;have g2:(V1.setCell ⟨w2.heap.size,5,none⟩ (.slice pf F.length cf)).cell? ⟨w2.heap.size,2,none⟩=some (.int .i64 k1):=HKH.out.cell 2;have g3:(V1.setCell ⟨w2.heap.size,5,none⟩ (.slice pf F.length cf)).cell? ⟨w2.heap.size,3,none⟩=some (.int .i64 0):=HKH.out.cell 3;have g4:(V1.setCell ⟨w2.heap.size,5,none⟩ (.slice pf F.length cf)).cell? ⟨w2.heap.size,4,none⟩=some (.string ⟨#[]⟩):=HKH.out.cell 4;have g5:(V1.setCell ⟨w2.heap.size,5,none⟩ (.slice pf F.length cf)).cell? ⟨w2.heap.size,5,none⟩=some (.slice pf F.length cf):=HKH.out.cell 5;clear HS1 HO1;go_wp2_with fail
  exact EW (ai Tryz.results82 _ _ _ _ rfl (E7 _ _ _ _ _ _ _ (bF HKZ.out _ _ _ _ _ _) Tryz.underlying44 rfl (by kernel_rfl))) rfl ⟨.slice pf F.length cf,by rw[HR.out];rfl,by rw[HR.out];exact ao.lower (lw HKO.out HLS.out _ _ _ _ _ _) HLE.out,aR HKU.out (FV _) _ _ _ _ _ _⟩
 ·have hef2:(ef != 0)=true:=by simpa using hef
  have HR2:aH 1 fields fold (s :: rest)=(cN,ef):=by rw[HR.out];exact if_pos hef
  have HKZ:=lH HS1.out.z;have z0:=HKZ.out.cell 0;have zf0:=HKZ.out.froz 0;have z1:=HKZ.out.cell 1;have zf1:=HKZ.out.froz 1;have z2:=HKZ.out.cell 2;have zf2:=HKZ.out.froz 2;have z3:=HKZ.out.cell 3;have zf3:=HKZ.out.froz 3;have z4:=HKZ.out.cell 4;have zf4:=HKZ.out.froz 4;have z5:=HKZ.out.cell 5;have zf5:=HKZ.out.froz 5;simp at z0 z1 z2 z3 z4 z5;clear hef;go_wp2_with fail
  exact EW (ai Tryz.results82 _ _ _ _ rfl (E7 _ _ _ _ _ _ _ (bF HKZ.out _ _ _ _ _ _) Tryz.underlying44 rfl (by kernel_rfl))) rfl ⟨cx,by rw[HR2];rfl,by rw[HR2];exact ao.start _ _,aR HS1.out.u (FV _) _ _ _ _ _ _⟩
theorem sG (a fields c d fold:Int) (b off m cc:Nat) (s:ByteArray) (rest:List ByteArray) (w:World) (hS:cQ w (.slice (some ⟨b,off,none⟩) (m+1) cc) (s :: rest)) (hcap:m+1<=cc) (hn:m<=100000) (ht:dX (s :: rest)<=100000):
 Calls Tryz.prog 82 #[.int .i64 2,.agg #[.int .i64 a,.int .i64 fields,.int .i64 c,.int .i64 d,.int .i64 fold],.slice (some ⟨b,off,none⟩) (m+1) cc] w fun e w'=>∃f,e=.returned (.tuple #[.agg ((aH 2 fields fold (s :: rest)).1.row f),.int .i64 (aH 2 fields fold (s :: rest)).2])/\ao w' w.heap.size f (aH 2 fields fold (s :: rest)).1.fs/\Below w.heap.size w w':=by
 obtain⟨hmr,hs0,htl,htl0⟩:=hS.tail;have hts:s.size<=100000:=by rw[bX] at ht;omega
 have htr:dX rest<=100000:=by rw[bX] at ht;omega
 obtain⟨A,hA⟩:∃A,bP 2 s=A:=⟨_,rfl⟩;have hAfs:A.1.fs=[]:=by rw[<-hA];exact lM _ _
 have hAm:A.1.m=⟨#[]⟩:=by rw[<-hA];rfl
 have hAt:A.1.t=⟨#[]⟩:=by rw[<-hA];rfl
 obtain⟨⟨⟨mq,tq,kq⟩,eq⟩,hq⟩:∃x,eV s=x:=⟨_,rfl⟩;have hQ:=fun(W:World)=>kG s hts hq W;have hT:=fun(W:World)=>sA s hts (k:=A.1.k) (n:=A.1.n) (r:=A.1.r) (e:=A.2) (by rw[<-hA];rfl) W
 have hP:aH 2 fields fold (s :: rest)=if A.2≠0 then (cN,A.2) else if fields<(rest.length:Int) then (cN,4) else if (bq fold rest).2≠0 then (cN,(bq fold rest).2) else ({ A.1 with fs:=(bq fold rest).1 },0):=by
  unfold aH;rw[if_neg (by decide)];show (if (bP 2 s).2≠0 then (cN,(bP 2 s).2) else _)=_;rw[hA]
 obtain⟨⟨m1,t1,k1,n1,r1,fs1⟩,e1⟩:=A;have hAfs:fs1=[]:=hAfs;subst hAfs;have hAm:m1=⟨#[]⟩:=hAm;have hAt:t1=⟨#[]⟩:=hAt;subst hAm hAt;have HT:=lH hT;clear hT hq;have HQ:=lH hQ;have HP:=lH hP;have HTL:=lH (And.intro htl htl0);have HTR:=lH htr;have HMR:=lH hmr;have hwm:wrap64 (m:Int)=m:=FY _ ⟨GN (by decide) (Int.natCast_nonneg m),GN (Int.ofNat_le.2 hn) (by decide)⟩;have hs1:=lH (fun W (hW:Below w.heap.size w W)=>(bL hW b off (ET _ _ hs0)).trans hs0);have hs2:=hs1.out _ (dr w (.cells #[.int .i64 a,.int .i64 fields,.int .i64 c,.int .i64 d,.int .i64 fold] 24) (.cells #[.string ⟨#[]⟩,.string ⟨#[]⟩,.int .i64 0,.int .i64 0,.string ⟨#[]⟩,.slice none 0 0] 44));have hi0:(0:Int)<(m:Int)+1:=by omega
 have hne0:((m:Int)+1==0)=false:=by rw[EJ];omega
 clear hA hQ hP hS htl htl0 htr ht hts hs0 hmr;by_cases he1:e1=0
 rotate_left
 ·have he2:(e1 != 0)=true:=by simpa using he1
  have he3:(e1==0)=false:=by simpa using he1
  have hR:aH 2 fields fold (s :: rest)=(cN,e1):=by rw[HP.out,if_pos he1]
  have HR:=lH hR;clear hR he1;go_enter Tryz.func82,Tryz.ntmps82
  go_upto_region 8 with (first|(go_at_call 98;refine(HQ.out _).mono ?_;rintro e1 w2 ⟨rfl,hb⟩;have KL:=lH (((af.new w #[.int .i64 a,.int .i64 fields,.int .i64 c,.int .i64 d,.int .i64 fold] 24).alloc (.cells #[.string ⟨#[]⟩,.string ⟨#[]⟩,.int .i64 0,.int .i64 0,.string ⟨#[]⟩,.slice none 0 0] 44)).call hb);have KZ:=lH ((cM w #[.int .i64 a,.int .i64 fields,.int .i64 c,.int .i64 d,.int .i64 fold] #[.string ⟨#[]⟩,.string ⟨#[]⟩,.int .i64 0,.int .i64 0,.string ⟨#[]⟩,.slice none 0 0] 24 44).call hb);have B2:=lH (bZ hb);have hz2:=hb.size;clear hb;(try simp at hz2);have KL3:=lH (KL.out.alloc (.cells #[.string mq,.string tq,.int .i64 kq,.int .i64 0,.string ⟨#[]⟩,.slice none 0 0] 44));have KZ3:=lH (KZ.out.alloc (.cells #[.string mq,.string tq,.int .i64 kq,.int .i64 0,.string ⟨#[]⟩,.slice none 0 0] 44));have hs3:=hs1.out _ (B2.out.alloc B2.out.size (.cells #[.string mq,.string tq,.int .i64 kq,.int .i64 0,.string ⟨#[]⟩,.slice none 0 0] 44)))|(go_at_call 99;refine(HT.out _).mono ?_;rintro e2 w3 ⟨rfl,hb3⟩;have KL4:=lH (KL3.out.call hb3);have KZ4:=lH (KZ3.out.call hb3);have KH4:=lH ((af.new w2 #[.string mq,.string tq,.int .i64 kq,.int .i64 0,.string ⟨#[]⟩,.slice none 0 0] 44).call hb3);have B3:=lH ((B2.out.alloc B2.out.size (.cells #[.string mq,.string tq,.int .i64 kq,.int .i64 0,.string ⟨#[]⟩,.slice none 0 0] 44)).trans (hb3.mono (by have:=B2.out.size;simp;omega)));clear hb3;have h0:=KH4.out.cell 0;have hf0:=KH4.out.froz 0;have h1:=KH4.out.cell 1;have hf1:=KH4.out.froz 1;have h2:=KH4.out.cell 2;have hf2:=KH4.out.froz 2;have h3:=KH4.out.cell 3;have hf3:=KH4.out.froz 3;have h4:=KH4.out.cell 4;have hf4:=KH4.out.froz 4;have h5:=KH4.out.cell 5;have hf5:=KH4.out.froz 5;simp at h0 h1 h2 h3 h4 h5))
  refine dl 8 ?_;intro w4 hw4
  have KL5:Hid (af w4 w.heap.size #[.int .i64 a,.int .i64 fields,.int .i64 c,.int .i64 d,.int .i64 fold] 24):=by
   show af _ _ _ _;rw[hw4];exact ig KL4.out (by omega) (.string ⟨#[]⟩) (.string ⟨#[]⟩) (.int .i64 k1) (.int .i64 n1) (.string r1) (.slice none 0 0) (g:=w2.heap.size)
  have KZ5:Hid (af w4 (w.heap.size+1) #[.string ⟨#[]⟩,.string ⟨#[]⟩,.int .i64 0,.int .i64 0,.string ⟨#[]⟩,.slice none 0 0] 44):=by
   show af _ _ _ _;rw[hw4];exact ig KZ4.out (by omega) (.string ⟨#[]⟩) (.string ⟨#[]⟩) (.int .i64 k1) (.int .i64 n1) (.string r1) (.slice none 0 0) (g:=w2.heap.size)
  have KH5:Hid (af w4 w2.heap.size #[.string ⟨#[]⟩,.string ⟨#[]⟩,.int .i64 k1,.int .i64 n1,.string r1,.slice none 0 0] 44):=by
   show af _ _ _ _;rw[hw4];exact bF KH4.out (.string ⟨#[]⟩) (.string ⟨#[]⟩) (.int .i64 k1) (.int .i64 n1) (.string r1) (.slice none 0 0)
  have B4:Hid (Below w.heap.size w w4):=by
   show Below _ _ _;rw[hw4];exact aR B3.out (show w.heap.size<=w2.heap.size by omega) (.string ⟨#[]⟩) (.string ⟨#[]⟩) (.int .i64 k1) (.int .i64 n1) (.string r1) (.slice none 0 0)
  clear hw4 h0 hf0 h1 hf1 h2 hf2 h3 hf3 h4 hf4 h5 hf5;have z0:=KZ5.out.cell 0;have zf0:=KZ5.out.froz 0;have z1:=KZ5.out.cell 1;have zf1:=KZ5.out.froz 1;have z2:=KZ5.out.cell 2;have zf2:=KZ5.out.froz 2;have z3:=KZ5.out.cell 3;have zf3:=KZ5.out.froz 3;have z4:=KZ5.out.cell 4;have zf4:=KZ5.out.froz 4;have z5:=KZ5.out.cell 5;have zf5:=KZ5.out.froz 5;simp at z0 z1 z2 z3 z4 z5;go_wp2_with fail
  exact EW (ai Tryz.results82 _ _ _ _ rfl (E7 _ _ _ _ _ _ _ (bF KZ5.out _ _ _ _ _ _) Tryz.underlying44 rfl (by kernel_rfl))) rfl ⟨cx,by rw[HR.out];rfl,by rw[HR.out];exact ao.start _ _,aR B4.out (FV _) _ _ _ _ _ _⟩
 subst he1;by_cases hlo:fields<(m:Int)
 ·have hlo2:decide (fields<(m:Int))=true:=dT hlo
  have hR:aH 2 fields fold (s :: rest)=(cN,4):=by rw[HP.out,if_neg (by simp),if_pos (by rw[<-HMR.out];exact hlo)]
  have HR:=lH hR;clear hR;go_enter Tryz.func82,Tryz.ntmps82
  go_upto_region 8 with (first|(go_at_call 98;refine(HQ.out _).mono ?_;rintro e1 w2 ⟨rfl,hb⟩;have KL:=lH (((af.new w #[.int .i64 a,.int .i64 fields,.int .i64 c,.int .i64 d,.int .i64 fold] 24).alloc (.cells #[.string ⟨#[]⟩,.string ⟨#[]⟩,.int .i64 0,.int .i64 0,.string ⟨#[]⟩,.slice none 0 0] 44)).call hb);have KZ:=lH ((cM w #[.int .i64 a,.int .i64 fields,.int .i64 c,.int .i64 d,.int .i64 fold] #[.string ⟨#[]⟩,.string ⟨#[]⟩,.int .i64 0,.int .i64 0,.string ⟨#[]⟩,.slice none 0 0] 24 44).call hb);have B2:=lH (bZ hb);have hz2:=hb.size;clear hb;(try simp at hz2);have KL3:=lH (KL.out.alloc (.cells #[.string mq,.string tq,.int .i64 kq,.int .i64 0,.string ⟨#[]⟩,.slice none 0 0] 44));have KZ3:=lH (KZ.out.alloc (.cells #[.string mq,.string tq,.int .i64 kq,.int .i64 0,.string ⟨#[]⟩,.slice none 0 0] 44));have hs3:=hs1.out _ (B2.out.alloc B2.out.size (.cells #[.string mq,.string tq,.int .i64 kq,.int .i64 0,.string ⟨#[]⟩,.slice none 0 0] 44)))|(go_at_call 99;refine(HT.out _).mono ?_;rintro e2 w3 ⟨rfl,hb3⟩;have KL4:=lH (KL3.out.call hb3);have KZ4:=lH (KZ3.out.call hb3);have KH4:=lH ((af.new w2 #[.string mq,.string tq,.int .i64 kq,.int .i64 0,.string ⟨#[]⟩,.slice none 0 0] 44).call hb3);have B3:=lH ((B2.out.alloc B2.out.size (.cells #[.string mq,.string tq,.int .i64 kq,.int .i64 0,.string ⟨#[]⟩,.slice none 0 0] 44)).trans (hb3.mono (by have:=B2.out.size;simp;omega)));clear hb3;have h0:=KH4.out.cell 0;have hf0:=KH4.out.froz 0;have h1:=KH4.out.cell 1;have hf1:=KH4.out.froz 1;have h2:=KH4.out.cell 2;have hf2:=KH4.out.froz 2;have h3:=KH4.out.cell 3;have hf3:=KH4.out.froz 3;have h4:=KH4.out.cell 4;have hf4:=KH4.out.froz 4;have h5:=KH4.out.cell 5;have hf5:=KH4.out.froz 5;simp at h0 h1 h2 h3 h4 h5))
  refine dl 8 ?_;intro w4 hw4
  have KL5:Hid (af w4 w.heap.size #[.int .i64 a,.int .i64 fields,.int .i64 c,.int .i64 d,.int .i64 fold] 24):=by
   show af _ _ _ _;rw[hw4];exact ig KL4.out (by omega) (.string ⟨#[]⟩) (.string ⟨#[]⟩) (.int .i64 k1) (.int .i64 n1) (.string r1) (.slice none 0 0) (g:=w2.heap.size)
  have KZ5:Hid (af w4 (w.heap.size+1) #[.string ⟨#[]⟩,.string ⟨#[]⟩,.int .i64 0,.int .i64 0,.string ⟨#[]⟩,.slice none 0 0] 44):=by
   show af _ _ _ _;rw[hw4];exact ig KZ4.out (by omega) (.string ⟨#[]⟩) (.string ⟨#[]⟩) (.int .i64 k1) (.int .i64 n1) (.string r1) (.slice none 0 0) (g:=w2.heap.size)
  have KH5:Hid (af w4 w2.heap.size #[.string ⟨#[]⟩,.string ⟨#[]⟩,.int .i64 k1,.int .i64 n1,.string r1,.slice none 0 0] 44):=by
   show af _ _ _ _;rw[hw4];exact bF KH4.out (.string ⟨#[]⟩) (.string ⟨#[]⟩) (.int .i64 k1) (.int .i64 n1) (.string r1) (.slice none 0 0)
  have B4:Hid (Below w.heap.size w w4):=by
   show Below _ _ _;rw[hw4];exact aR B3.out (show w.heap.size<=w2.heap.size by omega) (.string ⟨#[]⟩) (.string ⟨#[]⟩) (.int .i64 k1) (.int .i64 n1) (.string r1) (.slice none 0 0)
  clear hw4 h0 hf0 h1 hf1 h2 hf2 h3 hf3 h4 hf4 h5 hf5;have z0:=KZ5.out.cell 0;have zf0:=KZ5.out.froz 0;have z1:=KZ5.out.cell 1;have zf1:=KZ5.out.froz 1;have z2:=KZ5.out.cell 2;have zf2:=KZ5.out.froz 2;have z3:=KZ5.out.cell 3;have zf3:=KZ5.out.froz 3;have z4:=KZ5.out.cell 4;have zf4:=KZ5.out.froz 4;have z5:=KZ5.out.cell 5;have zf5:=KZ5.out.froz 5;simp at z0 z1 z2 z3 z4 z5;have q0:=KL5.out.cell 0;have qf0:=KL5.out.froz 0;have q1:=KL5.out.cell 1;have qf1:=KL5.out.froz 1;have q2:=KL5.out.cell 2;have qf2:=KL5.out.froz 2;have q3:=KL5.out.cell 3;have qf3:=KL5.out.froz 3;have q4:=KL5.out.cell 4;have qf4:=KL5.out.froz 4;simp at q0 q1 q2 q3 q4;go_wp2_with fail
  exact EW (ai Tryz.results82 _ _ _ _ rfl (E7 _ _ _ _ _ _ _ (bF KZ5.out _ _ _ _ _ _) Tryz.underlying44 rfl (by kernel_rfl))) rfl ⟨cx,by rw[HR.out];rfl,by rw[HR.out];exact ao.start _ _,aR B4.out (FV _) _ _ _ _ _ _⟩
 have hlo2:decide (fields<(m:Int))=false:=dF hlo;have hR:aH 2 fields fold (s :: rest)=if (bq fold rest).2≠0 then (cN,(bq fold rest).2) else (⟨⟨#[]⟩,⟨#[]⟩,k1,n1,r1,(bq fold rest).1⟩,0):=by rw[HP.out,if_neg (by simp),if_neg (by rw[<-HMR.out];exact hlo)]
 have HR:=lH hR;clear hR hlo HP;obtain⟨tp,htp⟩:∃tp,tp=(if cc=1 then some (⟨b,off,none⟩:Addr) else some ⟨b,off+1,none⟩):=⟨_,rfl⟩
 have htS:cQ w (.slice tp m (cc - 1)) rest:=by
  by_cases hc1:cc=1
  ·have:m=0:=by omega
   subst this;exact HTL.out.2 rfl _ _
  ·rw[htp,if_neg hc1];exact HTL.out.1 _
 have HTS:=lH htS;have HTP:=lH htp;obtain⟨⟨F,ef⟩,hAF⟩:∃x,bq fold rest=x:=⟨_,rfl⟩;have HFA:=lH (fun(V:World) (hV:Below w.heap.size w V)=>lG fold (.slice tp m (cc - 1)) rest V (htS.below hV) (by have:=HMR.out;omega) (by have:=HTR.out;omega));rw[hAF] at HFA HR;have HI1:=lH (show (1:Int)<=(m:Int)+1 by omega);clear htS htp hAF;go_enter Tryz.func82,Tryz.ntmps82
 go_upto_region 8 with (first|(go_at_call 98;refine(HQ.out _).mono ?_;rintro e1 w2 ⟨rfl,hb⟩;have KL:=lH (((af.new w #[.int .i64 a,.int .i64 fields,.int .i64 c,.int .i64 d,.int .i64 fold] 24).alloc (.cells #[.string ⟨#[]⟩,.string ⟨#[]⟩,.int .i64 0,.int .i64 0,.string ⟨#[]⟩,.slice none 0 0] 44)).call hb);have KZ:=lH ((cM w #[.int .i64 a,.int .i64 fields,.int .i64 c,.int .i64 d,.int .i64 fold] #[.string ⟨#[]⟩,.string ⟨#[]⟩,.int .i64 0,.int .i64 0,.string ⟨#[]⟩,.slice none 0 0] 24 44).call hb);have B2:=lH (bZ hb);have hz2:=hb.size;clear hb;(try simp at hz2);have KL3:=lH (KL.out.alloc (.cells #[.string mq,.string tq,.int .i64 kq,.int .i64 0,.string ⟨#[]⟩,.slice none 0 0] 44));have KZ3:=lH (KZ.out.alloc (.cells #[.string mq,.string tq,.int .i64 kq,.int .i64 0,.string ⟨#[]⟩,.slice none 0 0] 44));have hs3:=hs1.out _ (B2.out.alloc B2.out.size (.cells #[.string mq,.string tq,.int .i64 kq,.int .i64 0,.string ⟨#[]⟩,.slice none 0 0] 44)))|(go_at_call 99;refine(HT.out _).mono ?_;rintro e2 w3 ⟨rfl,hb3⟩;have KL4:=lH (KL3.out.call hb3);have KZ4:=lH (KZ3.out.call hb3);have KH4:=lH ((af.new w2 #[.string mq,.string tq,.int .i64 kq,.int .i64 0,.string ⟨#[]⟩,.slice none 0 0] 44).call hb3);have B3:=lH ((B2.out.alloc B2.out.size (.cells #[.string mq,.string tq,.int .i64 kq,.int .i64 0,.string ⟨#[]⟩,.slice none 0 0] 44)).trans (hb3.mono (by have:=B2.out.size;simp;omega)));clear hb3;have h0:=KH4.out.cell 0;have hf0:=KH4.out.froz 0;have h1:=KH4.out.cell 1;have hf1:=KH4.out.froz 1;have h2:=KH4.out.cell 2;have hf2:=KH4.out.froz 2;have h3:=KH4.out.cell 3;have hf3:=KH4.out.froz 3;have h4:=KH4.out.cell 4;have hf4:=KH4.out.froz 4;have h5:=KH4.out.cell 5;have hf5:=KH4.out.froz 5;simp at h0 h1 h2 h3 h4 h5))
 refine dl 8 ?_;intro w4 hw4
 have KL5:Hid (af w4 w.heap.size #[.int .i64 a,.int .i64 fields,.int .i64 c,.int .i64 d,.int .i64 fold] 24):=by
  show af _ _ _ _;rw[hw4];exact ig KL4.out (by omega) (.string ⟨#[]⟩) (.string ⟨#[]⟩) (.int .i64 k1) (.int .i64 n1) (.string r1) (.slice none 0 0) (g:=w2.heap.size)
 have KZ5:Hid (af w4 (w.heap.size+1) #[.string ⟨#[]⟩,.string ⟨#[]⟩,.int .i64 0,.int .i64 0,.string ⟨#[]⟩,.slice none 0 0] 44):=by
  show af _ _ _ _;rw[hw4];exact ig KZ4.out (by omega) (.string ⟨#[]⟩) (.string ⟨#[]⟩) (.int .i64 k1) (.int .i64 n1) (.string r1) (.slice none 0 0) (g:=w2.heap.size)
 have KH5:Hid (af w4 w2.heap.size #[.string ⟨#[]⟩,.string ⟨#[]⟩,.int .i64 k1,.int .i64 n1,.string r1,.slice none 0 0] 44):=by
  show af _ _ _ _;rw[hw4];exact bF KH4.out (.string ⟨#[]⟩) (.string ⟨#[]⟩) (.int .i64 k1) (.int .i64 n1) (.string r1) (.slice none 0 0)
 have B4:Hid (Below w.heap.size w w4):=by
  show Below _ _ _;rw[hw4];exact aR B3.out (show w.heap.size<=w2.heap.size by omega) (.string ⟨#[]⟩) (.string ⟨#[]⟩) (.int .i64 k1) (.int .i64 n1) (.string r1) (.slice none 0 0)
 clear hw4 h0 hf0 h1 hf1 h2 hf2 h3 hf3 h4 hf4 h5 hf5;have q0:=KL5.out.cell 0;have qf0:=KL5.out.froz 0;have q1:=KL5.out.cell 1;have qf1:=KL5.out.froz 1;have q2:=KL5.out.cell 2;have qf2:=KL5.out.froz 2;have q3:=KL5.out.cell 3;have qf3:=KL5.out.froz 3;have q4:=KL5.out.cell 4;have qf4:=KL5.out.froz 4;simp at q0 q1 q2 q3 q4;go_wp2_with fail
 refine bm (S:=fun v=>af v w.heap.size #[.int .i64 a,.int .i64 fields,.int .i64 c,.int .i64 d,.int .i64 fold] 24) (by kernel_rfl) ?_;intro V0 hV0;have h0:af V0 w.heap.size #[.int .i64 a,.int .i64 fields,.int .i64 c,.int .i64 d,.int .i64 fold] 24:=by rw[hV0];exact KL5.out.drew
 have HS:Hid (B7 w #[.int .i64 a,.int .i64 fields,.int .i64 c,.int .i64 d,.int .i64 fold] #[.string ⟨#[]⟩,.string ⟨#[]⟩,.int .i64 k1,.int .i64 n1,.string r1,.slice none 0 0] w2.heap.size V0):=by
  show B7 _ _ _ _ _;rw[hV0];exact⟨KL5.out.drew,KZ5.out.drew,KH5.out.drew,B4.out.drew,by omega⟩
 clear hV0 KL KZ KL3 KZ3 B2 hlo2;refine EL (i:=0) (v:=.pointer (some ⟨w.heap.size,4,none⟩)) rfl (by kernel_rfl) (by kernel_rfl) (by kernel_rfl) (fun _ _ _ h=>h) (Or.inl ⟨by kernel_rfl,?hy8⟩) h0 ?rest8
 case hy8=>
  intro v hv;clear hv;go_simp
 (try simp only[Act.put,lS,lZ,lC])
 refine EL (i:=1) (v:=.int .i64 fold) rfl (by kernel_rfl) (by kernel_rfl) (by kernel_rfl) (fun _ _ _ h=>h) (Or.inl ⟨by kernel_rfl,?hy9⟩) h0 ?rest9
 case hy9=>
  intro v hv;have q:=hv.cell 4;simp at q;clear hv;go_simp
 (try simp only[Act.put,lS,lZ,lC])
 refine EL (i:=2) (v:=.slice (some ⟨b,off,none⟩) (m+1) cc) rfl (by kernel_rfl) (by kernel_rfl) (by kernel_rfl) (fun _ _ _ h=>h) (Or.inl ⟨by kernel_rfl,?hy10⟩) h0 ?rest10
 case hy10=>
  intro v hv;clear hv;go_simp
 (try simp only[Act.put,lS,lZ,lC])
 refine EL (i:=3) (v:=.slice tp m (cc - 1)) rfl (by kernel_rfl) (by kernel_rfl) (by kernel_rfl) (fun _ _ _ h=>h) (Or.inl ⟨by kernel_rfl,?hy11⟩) h0 ?rest11
 case hy11=>
  intro v hv;clear hv;go_simp;rw[if_pos HI1.out,HTP.out]
 (try simp only[Act.put,lS,lZ,lC])
 refine Fe (rs:=[4]) (by kernel_rfl) (by simp) ?_;refine EZ rfl (fun K hK=>?_) E9;go_simp;refine(HFA.out _ HS.out.u).mono ?_;rintro e V1 ⟨f,rfl,hof,hb1⟩;obtain⟨pf,cf,rfl⟩:=aC hof;have HS1:=lH (HS.out.below hb1);have HO1:=lH hof;have h1:=h0.call hb1;have HLT:=lH HS.out.h.lt;have HLE:=lH HS.out.u.size;clear hof hb1 h0;refine hK _ _ h1 (fun _=>?_);clear hK K;(try simp only[Act.put,lS,lZ,lC])
 refine EL (i:=5) (v:=.tuple #[.slice pf F.length cf,.int .i64 ef]) rfl (by kernel_rfl) (by kernel_rfl) (by kernel_rfl) (fun _ _ _ h=>h) (Or.inl ⟨by kernel_rfl,?hy12⟩) h1 ?rest12
 case hy12=>
  intro v hv;clear hv;go_simp
 (try simp only[Act.put,lS,lZ,lC])
 refine EL (i:=6) (v:=.slice pf F.length cf) rfl (by kernel_rfl) (by kernel_rfl) (by kernel_rfl) (fun _ _ _ h=>h) (Or.inl ⟨by kernel_rfl,?hy13⟩) h1 ?rest13
 case hy13=>
  intro v hv;clear hv;go_simp
 (try simp only[Act.put,lS,lZ,lC])
 refine EL (i:=7) (v:=.int .i64 ef) rfl (by kernel_rfl) (by kernel_rfl) (by kernel_rfl) (fun _ _ _ h=>h) (Or.inl ⟨by kernel_rfl,?hy14⟩) h1 ?rest14
 case hy14=>
  intro v hv;clear hv;go_simp
 (try simp only[Act.put,lS,lZ,lC])
 refine Fe (rs:=[8]) (by kernel_rfl) (by simp) ?_;refine EZ rfl (fun K hK=>?_) E9;go_simp;refine hK _ _ h1 (fun _=>?_);clear hK K;(try simp only[Act.put,lS,lZ,lC])
 refine Fe (rs:=[9]) (by kernel_rfl) (by simp) ?_;refine EZ rfl (fun K hK=>?_) E9;go_simp;refine hK _ _ h1 (fun _=>?_);clear hK K;(try simp only[Act.put,lS,lZ,lC])
 refine wpAnyH_done (by kernel_rfl) ?_ _;have HNE:=lH HS1.out.lt;have HLS:=lH (Nat.lt_trans HS1.out.lt HLT.out);clear h1 HS;by_cases hef:ef=0
 ·subst hef
  have KH0:af (V1.setCell ⟨w2.heap.size,5,none⟩ (.slice pf F.length cf)) w2.heap.size #[.string ⟨#[]⟩,.string ⟨#[]⟩,.int .i64 k1,.int .i64 n1,.string r1,.slice pf F.length cf] 44:=by
   have:=HS1.out.h.set 5 (.slice pf F.length cf);simpa using this
  have HKH:=lH KH0;clear KH0;have HKZ:=lH (HS1.out.z.far (p:=⟨w2.heap.size,5,none⟩) (Nat.ne_of_lt HNE.out) (.slice pf F.length cf));have HKO:=lH (aD HO1.out HLT.out 5 (.slice pf F.length cf));have HKU:=lH (HS1.out.u.setCell (p:=⟨w2.heap.size,5,none⟩) (Nat.le_of_lt (Nat.lt_of_succ_lt HNE.out)) (.slice pf F.length cf));have a5:=HS1.out.h.cell 5;have a5f:=HS1.out.h.froz 5;simp at a5;have z0:(V1.setCell ⟨w2.heap.size,5,none⟩ (.slice pf F.length cf)).cell? ⟨w.heap.size+1,0,none⟩=some (.string ⟨#[]⟩):=HKZ.out.cell 0;have zf0:=HKZ.out.froz 0;have z1:(V1.setCell ⟨w2.heap.size,5,none⟩ (.slice pf F.length cf)).cell? ⟨w.heap.size+1,1,none⟩=some (.string ⟨#[]⟩):=HKZ.out.cell 1;have zf1:=HKZ.out.froz 1;have z2:(V1.setCell ⟨w2.heap.size,5,none⟩ (.slice pf F.length cf)).cell? ⟨w.heap.size+1,2,none⟩=some (.int .i64 0):=HKZ.out.cell 2;have zf2:=HKZ.out.froz 2;have z3:(V1.setCell ⟨w2.heap.size,5,none⟩ (.slice pf F.length cf)).cell? ⟨w.heap.size+1,3,none⟩=some (.int .i64 0):=HKZ.out.cell 3;have zf3:=HKZ.out.froz 3;have z4:(V1.setCell ⟨w2.heap.size,5,none⟩ (.slice pf F.length cf)).cell? ⟨w.heap.size+1,4,none⟩=some (.string ⟨#[]⟩):=HKZ.out.cell 4;have zf4:=HKZ.out.froz 4;have z5:(V1.setCell ⟨w2.heap.size,5,none⟩ (.slice pf F.length cf)).cell? ⟨w.heap.size+1,5,none⟩=some (.slice none 0 0):=HKZ.out.cell 5;have zf5:=HKZ.out.froz 5;have g0:(V1.setCell ⟨w2.heap.size,5,none⟩ (.slice pf F.length cf)).cell? ⟨w2.heap.size,0,none⟩=some (.string ⟨#[]⟩):=HKH.out.cell 0
  have g1:(V1.setCell ⟨w2.heap.size,5,none⟩ (.slice pf F.length cf)).cell? ⟨w2.heap.size,1,none⟩=some (.string ⟨#[]⟩):=HKH.out.cell 1;have g2:(V1.setCell ⟨w2.heap.size,5,none⟩ (.slice pf F.length cf)).cell? ⟨w2.heap.size,2,none⟩=some (.int .i64 k1):=HKH.out.cell 2;have g3:(V1.setCell ⟨w2.heap.size,5,none⟩ (.slice pf F.length cf)).cell? ⟨w2.heap.size,3,none⟩=some (.int .i64 n1):=HKH.out.cell 3;have g4:(V1.setCell ⟨w2.heap.size,5,none⟩ (.slice pf F.length cf)).cell? ⟨w2.heap.size,4,none⟩=some (.string r1):=HKH.out.cell 4;have g5:(V1.setCell ⟨w2.heap.size,5,none⟩ (.slice pf F.length cf)).cell? ⟨w2.heap.size,5,none⟩=some (.slice pf F.length cf):=HKH.out.cell 5;clear HS1 HO1;go_wp2_with fail
  exact EW (ai Tryz.results82 _ _ _ _ rfl (E7 _ _ _ _ _ _ _ (bF HKZ.out _ _ _ _ _ _) Tryz.underlying44 rfl (by kernel_rfl))) rfl ⟨.slice pf F.length cf,by rw[HR.out];rfl,by rw[HR.out];exact ao.lower (lw HKO.out HLS.out _ _ _ _ _ _) HLE.out,aR HKU.out (FV _) _ _ _ _ _ _⟩
 ·have hef2:(ef != 0)=true:=by simpa using hef
  have HR2:aH 2 fields fold (s :: rest)=(cN,ef):=by rw[HR.out];exact if_pos hef
  have HKZ:=lH HS1.out.z;have z0:=HKZ.out.cell 0;have zf0:=HKZ.out.froz 0;have z1:=HKZ.out.cell 1;have zf1:=HKZ.out.froz 1;have z2:=HKZ.out.cell 2;have zf2:=HKZ.out.froz 2;have z3:=HKZ.out.cell 3;have zf3:=HKZ.out.froz 3;have z4:=HKZ.out.cell 4;have zf4:=HKZ.out.froz 4;have z5:=HKZ.out.cell 5;have zf5:=HKZ.out.froz 5;simp at z0 z1 z2 z3 z4 z5;clear hef;go_wp2_with fail
  exact EW (ai Tryz.results82 _ _ _ _ rfl (E7 _ _ _ _ _ _ _ (bF HKZ.out _ _ _ _ _ _) Tryz.underlying44 rfl (by kernel_rfl))) rfl ⟨cx,by rw[HR2];rfl,by rw[HR2];exact ao.start _ _,aR HS1.out.u (FV _) _ _ _ _ _ _⟩
end Go.Proofs.YthjbodpeckebiaaGreatDoor
-- HFew
namespace Go.Proofs.YthjbodpeckebiaaGreatDoor
open Go.RowKit
theorem ww (kind a fields c d fold:Int) (hfi:-9223372036854775808<=fields/\fields<=9223372036854775807) (v:Value) (hcap:wU v) (l:List ByteArray) (w:World) {mx:Int} (hm:w.cell? ⟨0,0,none⟩=some (.int .i64 mx)) (hS:cQ w v l) (hn:l.length<=100000) (ht:dX l<=100000):
 Calls Tryz.prog 89 #[.int .i64 kind,.agg #[.int .i64 a,.int .i64 fields,.int .i64 c,.int .i64 d,.int .i64 fold],v] w fun e w'=>∃f,e=.returned (.tuple #[.agg ((aH kind fields fold l).1.row f),.int .i64 (aH kind fields fold l).2])/\ao w' w.heap.size f (aH kind fields fold l).1.fs/\Below w.heap.size w w':=by
 by_cases h12:kind=1\/kind=2
 ·cases l with
  | nil=>
    obtain⟨p,cc,rfl,_⟩:=hS;refine(uH kind a fields c d fold h12 p cc w).mono ?_;rintro e w' ⟨rfl,hb⟩;have hP:aH kind fields fold []=(cN,2):=by unfold aH;rw[if_neg (by omega)]
    exact⟨cx,by rw[hP],by rw[hP];exact ao.start _ _,hb⟩
  | cons s rest=>
    obtain⟨p,cc,rfl,hc⟩:=hS;obtain⟨b,off,rfl,_⟩:=hc 0 (by simp);have hS:cQ w (.slice (some ⟨b,off,none⟩) (s :: rest).length cc) (s :: rest):=⟨_,_,rfl,hc⟩;have hl:(s :: rest).length=rest.length+1:=rfl;rw[hl] at hS hn ⊢;have hcap:rest.length+1<=cc:=hcap;exact zq kind h12 a fields c d fold hfi b off rest.length cc s rest w hm hS hcap (by omega) ht
 ·have hP:aH kind fields fold l=(cN,1):=by unfold aH;rw[if_pos ⟨fun e=>h12 (Or.inl e),fun e=>h12 (Or.inr e)⟩]
  refine(vh kind a fields c d fold (fun e=>h12 (Or.inl e)) (fun e=>h12 (Or.inr e)) v w).mono ?_;rintro e w' ⟨rfl,hb⟩;exact⟨cx,by rw[hP],by rw[hP];exact ao.start _ _,hb⟩
theorem tW (kind a fields c d fold:Int) (v:Value) (hcap:wU v) (l:List ByteArray) (w:World) (hS:cQ w v l) (hn:l.length<=100000) (ht:dX l<=100000):
 Calls Tryz.prog 82 #[.int .i64 kind,.agg #[.int .i64 a,.int .i64 fields,.int .i64 c,.int .i64 d,.int .i64 fold],v] w fun e w'=>∃f,e=.returned (.tuple #[.agg ((aH kind fields fold l).1.row f),.int .i64 (aH kind fields fold l).2])/\ao w' w.heap.size f (aH kind fields fold l).1.fs/\Below w.heap.size w w':=by
 by_cases h12:kind=1\/kind=2
 ·cases l with
  | nil=>
    obtain⟨p,cc,rfl,_⟩:=hS;refine(sB kind a fields c d fold h12 p cc w).mono ?_;rintro e w' ⟨rfl,hb⟩;have hP:aH kind fields fold []=(cN,2):=by unfold aH;rw[if_neg (by omega)]
    exact⟨cx,by rw[hP],by rw[hP];exact ao.start _ _,hb⟩
  | cons s rest=>
    obtain⟨p,cc,rfl,hc⟩:=hS;obtain⟨b,off,rfl,_⟩:=hc 0 (by simp);have hS:cQ w (.slice (some ⟨b,off,none⟩) (s :: rest).length cc) (s :: rest):=⟨_,_,rfl,hc⟩;have hl:(s :: rest).length=rest.length+1:=rfl;rw[hl] at hS hn ⊢;have hcap:rest.length+1<=cc:=hcap;rcases h12 with rfl|rfl
    ·exact tT a fields c d fold b off rest.length cc s rest w hS hcap (by omega) ht
    ·exact sG a fields c d fold b off rest.length cc s rest w hS hcap (by omega) ht
 ·have hP:aH kind fields fold l=(cN,1):=by unfold aH;rw[if_pos ⟨fun e=>h12 (Or.inl e),fun e=>h12 (Or.inr e)⟩]
  refine(tY kind a fields c d fold (fun e=>h12 (Or.inl e)) (fun e=>h12 (Or.inr e)) v w).mono ?_;rintro e w' ⟨rfl,hb⟩;exact⟨cx,by rw[hP],by rw[hP];exact ao.start _ _,hb⟩
end Go.Proofs.YthjbodpeckebiaaGreatDoor
-- Lns
namespace Go.Proofs.YthjbodpeckebiaaGreatDoor
open Go.RowKit
structure gk where
 left:Int
 spent:Int
 line:List UInt8
 within:Bool
 turn:Bool
 whole:Bool
 e:Int
def gk.row (s:gk) (v:Value):Array Value:=#[.int .i64 s.left,.int .i64 s.spent,v,.bool s.within,.bool s.turn,.bool s.whole,.int .i64 s.e]
structure dm (w:World) (g B:Nat) (v:Value) (s:gk):Prop where
 b:af w g (s.row v) 136
 o:eC w B v s.line
 lt:g<B
 sz:B<=w.heap.size
def bz (s:gk) (c:UInt8):gk×Int:=
 if s.left=0 then (s,4) else if s.turn≠decide (c=10) then (s,8)
 else if c=13 then ({ s with turn:=true,left:=s.left - 1,spent:=s.spent+1,within:=!s.whole },0)
 else if c=10 then ({ s with turn:=false,whole:=true,left:=s.left - 1,spent:=s.spent+1,within:=false },0)
 else ({ s with line:=s.line++[c],left:=s.left - 1,spent:=s.spent+1,within:=!s.whole },0)
end Go.Proofs.YthjbodpeckebiaaGreatDoor
-- HpPlain
namespace Go.Proofs.YthjbodpeckebiaaGreatDoor
open Go.RowKit
def aw (l:List UInt8):ByteArray:=⟨l.toArray⟩
theorem Br (l:List UInt8):(aw l).size=0↔l=[]:=by
 unfold aw;show l.toArray.size=0↔_;simp
theorem dn (l:List UInt8):(aw l).size=l.length:=by
 unfold aw;show l.toArray.size=_;simp
def ac:List UInt8->gk->gk×Nat
 | [],s=>(s,0)
 | c :: r,s=>if s.whole=true\/s.e≠0 then (s,0)
   else if (bz s c).2=0 then ((ac r { (bz s c).1 with e:=0 }).1,(ac r { (bz s c).1 with e:=0 }).2+1)
   else ({ (bz s c).1 with e:=(bz s c).2 },0)
structure fb where
 ln:gk
 all:List ByteArray
 fin:Bool
 hd:Hd
 e:Int
def ji (kind fields fold:Int) (p:fb) (s:ByteArray):fb:=
 if s.size≠0 then { p with all:=p.all++[s] }
 else if p.all≠[]\/kind=2 then { p with fin:=true,hd:=(aH kind fields fold p.all).1,e:=(aH kind fields fold p.all).2 } else p
def kR (kind fields fold:Int) (p:fb) (s:gk):fb:=
 if s.whole=true then ji kind fields fold { p with ln:={ s with line:=[],whole:=false,e:=0 },e:=0 } (aw s.line) else { p with ln:={ s with e:=0 },e:=0 }
def cT (kind fields fold:Int):List UInt8->fb->fb×Nat
 | [],p=>(p,0)
 | c :: r,p=>if p.fin=true\/p.e≠0 then (p,0)
   else if (bz p.ln c).2=0 then ((cT kind fields fold r (kR kind fields fold p (bz p.ln c).1)).1,(cT kind fields fold r (kR kind fields fold p (bz p.ln c).1)).2+1)
   else ({ p with ln:={ (bz p.ln c).1 with e:=(bz p.ln c).2 },e:=(bz p.ln c).2 },0)
def ma (kind fields fold:Int) (l:List UInt8) (p:fb):fb:=
 if (ac l p.ln).1.whole=true then ji kind fields fold { p with ln:={ (ac l p.ln).1 with line:=[],whole:=false },e:=(ac l p.ln).1.e } (aw (ac l p.ln).1.line)
 else { p with ln:=(ac l p.ln).1,e:=(ac l p.ln).1.e }
theorem eE:∀(l:List UInt8) (s:gk),(ac l s).2<=l.length
 | [],s=>nR _
 | c :: r,s=>by
   rw[ac];split
   ·exact EN _
   split
   ·simpa using eE r _
   ·exact EN _
theorem dV (l:List UInt8) (s:gk) (h:s.whole=true\/s.e≠0):ac l s=(s,0):=by
 cases l with
 | nil=>rfl
 | cons c r=>rw[ac,if_pos h]
theorem EF (s:gk) (c:UInt8):(bz s c).1.e=s.e:=by
 unfold bz;repeat' split
 all_goals rfl
theorem DW (s:gk) (h:s.e=0):{ s with e:=0 }=s:=by
 obtain⟨a,b,c,d,e,f,g⟩:=s;simp only at h;subst h;rfl
theorem jq (kind fields fold:Int) (l:List UInt8) (p:fb) (h:p.fin=true\/p.e≠0):cT kind fields fold l p=(p,0):=by
 cases l with
 | nil=>rfl
 | cons c r=>rw[cT,if_pos h]
theorem qi (kind fields fold:Int):∀(l:List UInt8) (p:fb),p.fin=false->p.e=0->p.ln.e=0->p.ln.whole=false->l≠[]->
 cT kind fields fold l p=((cT kind fields fold (l.drop (ac l p.ln).2) (ma kind fields fold l p)).1,(ac l p.ln).2+(cT kind fields fold (l.drop (ac l p.ln).2) (ma kind fields fold l p)).2)
 | [],p,_,_,_,_,h=>absurd rfl h
 | c :: r,p,h1,h2,h3,h4,_=>by
   have n1:¬(p.fin=true\/p.e≠0):=by rw[h1,h2];simp
   have n2:¬(p.ln.whole=true\/p.ln.e≠0):=by rw[h3,h4];simp
   rw[cT,if_neg n1];unfold ma;rw[ac,if_neg n2];by_cases hs:(bz p.ln c).2=0
   ·rw[if_pos hs,if_pos hs]
    obtain⟨S,hS⟩:∃S,S=(bz p.ln c).1:=⟨_,rfl⟩;have hSe:S.e=0:=by rw[hS,EF,h3]
    rw[<-hS];rw[DW S hSe];cases hw:S.whole with
    | true=>
      rw[dV r S (Or.inl hw)];simp only[hw,if_true,Fz,Ff,FQ]
      have:kR kind fields fold p S=ji kind fields fold { p with ln:={ S with line:=[],whole:=false },e:=S.e } (aw S.line):=by
       unfold kR;rw[if_pos hw,hSe]
      rw[this,GI]
    | false=>
      have ht:kR kind fields fold p S={ p with ln:=S,e:=0 }:=by
       unfold kR;rw[if_neg (by rw[hw];decide),DW S hSe]
      rw[ht];simp only[Fz];by_cases hr:r=[]
      ·subst hr
       rw[ac,hw];simp only[FX,if_false];rw[hSe];simp[cT]
      ·have ih:=qi kind fields fold r { p with ln:=S,e:=0 } h1 rfl hSe hw hr
       rw[ih];unfold ma;simp only;congr 1
       omega
   ·rw[if_neg hs,if_neg hs]
    have hSe:(bz p.ln c).1.whole=false:=by
     revert hs;unfold bz;repeat' split
     all_goals first
      | (intro _;exact h4)
      | (intro hs;exact absurd rfl hs)
    simp only[hSe,FX,if_false,Ff,FQ];rw[jq];exact Or.inr hs
theorem kO (kind fields fold:Int):∀(l:List UInt8) (p:fb),(cT kind fields fold l p).2<=l.length
 | [],p=>nR _
 | c :: r,p=>by
   rw[cT];split
   ·exact EN _
   split
   ·simpa using kO kind fields fold r _
   ·exact EN _
def cP (most:Int):List UInt8->Nat->List UInt8->Bool->List (List UInt8)×Bool×Nat×Int
 | [],i,cur,turn=>([],!cur.isEmpty||turn,i,0)
 | c :: r,i,cur,turn=>if (i:Int)=most then ([],!cur.isEmpty||turn,i,4)
   else if turn≠decide (c=10) then ([],!cur.isEmpty||turn,i,8)
   else if c=13 then cP most r (i+1) cur true
   else if c=10 then (cur :: (cP most r (i+1) [] false).1,(cP most r (i+1) [] false).2)
   else cP most r (i+1) (cur++[c]) false
def dE (kind fields fold:Int):List (List UInt8)->Nat->List ByteArray->Option ((Hd×Int)×Nat)×List ByteArray
 | [],_,got=>(none,got)
 | l :: r,at_,got=>if l≠[] then dE kind fields fold r (at_+l.length+2) (got++[aw l])
   else if got≠[]\/kind=2 then (some (aH kind fields fold got,at_+2),got) else dE kind fields fold r (at_+2) got
def uM (P:fb×Nat) (q:Bool×Nat×Int) (z:Option ((Hd×Int)×Nat)×List ByteArray) (i:Nat) (hd:Hd):Prop:=
 match z with
 | (some (h,used),_)=>P.1.fin=true/\P.1.hd=h.1/\P.1.e=h.2/\i+P.2=used
 | (none,all)=>P.1.fin=false/\P.1.all=all/\P.1.e=q.2.2/\P.1.hd=hd/\i+P.2=q.2.1/\P.1.ln.within=q.1
theorem uM.step {P:fb×Nat} {q:Bool×Nat×Int} {z:Option ((Hd×Int)×Nat)×List ByteArray} {i:Nat} {hd:Hd} (h:uM P q z (i+1) hd):uM (P.1,P.2+1) q z i hd:=by
 obtain⟨z1,z2⟩:=z;cases z1 with
 | none=>
   obtain⟨a,b,c,d,e,f⟩:=h;exact⟨a,b,c,d,by rw[<-e];show i+(P.2+1)=i+1+P.2;omega,f⟩
 | some hu=>
   obtain⟨h1,used⟩:=hu;obtain⟨a,b,c,d⟩:=h;exact⟨a,b,c,by rw[<-d];show i+(P.2+1)=i+1+P.2;omega⟩
theorem kU (kind fields fold most:Int):∀(l:List UInt8) (i at_:Nat) (sp:Int) (cur:List UInt8) (turn:Bool) (all:List ByteArray) (hd:Hd),
 at_+cur.length+(if turn=true then 1 else 0)=i->
 uM (cT kind fields fold l ⟨⟨most - i,sp,cur,!cur.isEmpty||turn,turn,false,0⟩,all,false,hd,0⟩) (cP most l i cur turn).2 (dE kind fields fold (cP most l i cur turn).1 at_ all) i hd
 | [],i,at_,sp,cur,turn,all,hd,hi=>by
   simp[cT,cP,dE,uM]
 | c :: r,i,at_,sp,cur,turn,all,hd,hi=>by
   rw[cT,if_neg (by simp),cP];unfold bz;simp only;by_cases h1:(i:Int)=most
   ·rw[if_pos (by omega:most - (i:Int)=0),if_pos h1]
    simp[dE,uM]
   rw[if_neg (by omega:¬most - (i:Int)=0),if_neg h1];by_cases h2:turn≠decide (c=10)
   ·rw[if_pos h2,if_pos h2,if_neg (show ¬(8:Int)=0 by decide)]
    simp[dE,uM]
   rw[if_neg h2,if_neg h2];have hl:most - (i:Int) - 1=most - ((i+1:Nat):Int):=by omega
   by_cases h3:c=13
   ·rw[if_pos h3,if_pos h3,if_pos rfl]
    unfold kR;simp only[FX,if_false,hl]
    have ht:turn=false:=by
     have:=Decidable.not_not.1 h2;rw[this,h3];rfl
    have ih:=kU kind fields fold most r (i+1) at_ (sp+1) cur true all hd (by rw[ht] at hi;simp at hi ⊢;omega);simp only[Bool.or_true] at ih;exact ih.step
   rw[if_neg h3,if_neg h3];by_cases h4:c=10
   ·rw[if_pos h4,if_pos h4,if_pos rfl]
    have ht:turn=true:=by
     have:=Decidable.not_not.1 h2;rw[this,h4];rfl
    rw[ht,if_pos rfl] at hi;unfold kR;simp only[if_true,hl];unfold ji;simp only[ne_eq,Br];rw[dE];by_cases h5:cur=[]
    ·subst h5
     simp only[not_true,if_false,ne_eq];by_cases h6:¬all=[]\/kind=2
     ·rw[if_pos h6,if_pos h6,jq _ _ _ _ _ (Or.inl rfl)]
      simp at hi;exact⟨rfl,rfl,rfl,by show i+(0+1)=at_+2;omega⟩
     ·rw[if_neg h6,if_neg h6]
      have ih:=kU kind fields fold most r (i+1) (at_+2) (sp+1) [] false all hd (by simp at hi ⊢;omega);exact ih.step
    ·rw[if_pos h5,if_pos h5]
     have ih:=kU kind fields fold most r (i+1) (at_+cur.length+2) (sp+1) [] false (all++[aw cur]) hd (by simp;omega);exact ih.step
   ·rw[if_neg h4,if_neg h4,if_pos rfl]
    have ht:turn=false:=by
     have:=Decidable.not_not.1 h2;rw[this];exact dF h4
    subst ht;unfold kR;simp only[FX,if_false,hl,Bool.not_false];have ih:=kU kind fields fold most r (i+1) at_ (sp+1) (cur++[c]) false all hd (by simp at hi ⊢;omega);have he:(!(cur++[c]).isEmpty||false)=true:=by simp
    rw[he] at ih;exact ih.step
end Go.Proofs.YthjbodpeckebiaaGreatDoor
-- See
namespace Go.Proofs.YthjbodpeckebiaaGreatDoor
open Go.RowKit
def vT (g:Nat) (v:Value) (j:Nat):Prop:=j=g\/v.ownBlock=some j
theorem aB {P Q:Nat->Prop} {w w1 w2:World} (h:aa P w w1) (k:aa Q w1 w2) (hq:∀i,i<w.heap.size->Q i->P i):aa P w w2:=
 ⟨k.os.trans h.os,k.tape.trans h.tape,k.output.trans h.output,nT h.size k.size,fun i hi hP=>(k.block i (FC hi h.size) fun hQ=>hP (hq i hi hQ)).trans (h.block i hi hP)⟩
theorem eC.lt {w:World} {B:Nat} {v:Value} {l:List UInt8} (h:eC w B v l):∀k,v.ownBlock=some k->B<=k/\k<w.heap.size:=by
 intro k hk;obtain⟨_,h2⟩:=h;rcases h2 with ⟨rfl,_⟩|⟨g',cap,cur,rfl,hB,hg,_⟩
 ·cases hk
 ·have:g'=k:=by injection hk
  subst this;exact⟨hB,(EV.1 hg).1⟩
theorem Dp (L S:Int) (Ln:List UInt8) (Wi Tu Wh:Bool) (E:Int) (c:UInt8) (e0:L≠0):bz ⟨L,S,Ln,Wi,Tu,Wh,E⟩ c=(if Tu≠decide (c=10) then (⟨L,S,Ln,Wi,Tu,Wh,E⟩,8)
 else if decide (c=13)=true then (⟨L - 1,S+1,Ln,!Wh,true,Wh,E⟩,0)
 else if decide (c=10)=true then (⟨L - 1,S+1,Ln,false,false,true,E⟩,0)
 else (⟨L - 1,S+1,Ln++[c],!Wh,Tu,Wh,E⟩,0)):=by
 unfold bz;rw[if_neg e0];simp only[EO]
theorem ln_cr {w:World} {g:Nat} {v:Value} {L S:Int} {Wi Tu Wh:Bool} {E:Int} (v2:Value) (h:af w g #[.int .i64 L,.int .i64 S,v,.bool Wi,.bool Tu,.bool Wh,.int .i64 E] 136):af ((((w.setCell ⟨g,4,none⟩ (.bool true)).setCell ⟨g,0,none⟩ (.int .i64 (L - 1))).setCell ⟨g,1,none⟩ (.int .i64 (S+1))).setCell ⟨g,3,none⟩ (.bool (!Wh))) g #[.int .i64 (L - 1),.int .i64 (S+1),v,.bool (!Wh),.bool true,.bool Wh,.int .i64 E] 136:=by
 have:=((((h.set 4 (.bool true)).set 0 (.int .i64 (L - 1))).set 1 (.int .i64 (S+1))).set 3 (.bool (!Wh)));simpa using this
theorem DY (P:Nat->Prop) (w:World) (g:Nat) (hg:P g) (v2:Value) (L S:Int) (Wh:Bool):aa P w ((((w.setCell ⟨g,4,none⟩ (.bool true)).setCell ⟨g,0,none⟩ (.int .i64 (L - 1))).setCell ⟨g,1,none⟩ (.int .i64 (S+1))).setCell ⟨g,3,none⟩ (.bool (!Wh))):=(((((aa.refl _ w).setCell (p:=⟨g,4,none⟩) hg (.bool true)).setCell (p:=⟨g,0,none⟩) hg (.int .i64 (L - 1))).setCell (p:=⟨g,1,none⟩) hg (.int .i64 (S+1))).setCell (p:=⟨g,3,none⟩) hg (.bool (!Wh)))
theorem ln_lf {w:World} {g:Nat} {v:Value} {L S:Int} {Wi Tu Wh:Bool} {E:Int} (v2:Value) (h:af w g #[.int .i64 L,.int .i64 S,v,.bool Wi,.bool Tu,.bool Wh,.int .i64 E] 136):af (((((w.setCell ⟨g,4,none⟩ (.bool false)).setCell ⟨g,5,none⟩ (.bool true)).setCell ⟨g,0,none⟩ (.int .i64 (L - 1))).setCell ⟨g,1,none⟩ (.int .i64 (S+1))).setCell ⟨g,3,none⟩ (.bool false)) g #[.int .i64 (L - 1),.int .i64 (S+1),v,.bool false,.bool false,.bool true,.int .i64 E] 136:=by
 have:=(((((h.set 4 (.bool false)).set 5 (.bool true)).set 0 (.int .i64 (L - 1))).set 1 (.int .i64 (S+1))).set 3 (.bool false));simpa using this
theorem DF (P:Nat->Prop) (w:World) (g:Nat) (hg:P g) (v2:Value) (L S:Int) (Wh:Bool):aa P w (((((w.setCell ⟨g,4,none⟩ (.bool false)).setCell ⟨g,5,none⟩ (.bool true)).setCell ⟨g,0,none⟩ (.int .i64 (L - 1))).setCell ⟨g,1,none⟩ (.int .i64 (S+1))).setCell ⟨g,3,none⟩ (.bool false)):=((((((aa.refl _ w).setCell (p:=⟨g,4,none⟩) hg (.bool false)).setCell (p:=⟨g,5,none⟩) hg (.bool true)).setCell (p:=⟨g,0,none⟩) hg (.int .i64 (L - 1))).setCell (p:=⟨g,1,none⟩) hg (.int .i64 (S+1))).setCell (p:=⟨g,3,none⟩) hg (.bool false))
theorem ln_ap {w:World} {g:Nat} {v:Value} {L S:Int} {Wi Tu Wh:Bool} {E:Int} (v2:Value) (h:af w g #[.int .i64 L,.int .i64 S,v,.bool Wi,.bool Tu,.bool Wh,.int .i64 E] 136):af ((((w.setCell ⟨g,2,none⟩ (v2)).setCell ⟨g,0,none⟩ (.int .i64 (L - 1))).setCell ⟨g,1,none⟩ (.int .i64 (S+1))).setCell ⟨g,3,none⟩ (.bool (!Wh))) g #[.int .i64 (L - 1),.int .i64 (S+1),v2,.bool (!Wh),.bool Tu,.bool Wh,.int .i64 E] 136:=by
 have:=((((h.set 2 (v2)).set 0 (.int .i64 (L - 1))).set 1 (.int .i64 (S+1))).set 3 (.bool (!Wh)));simpa using this
theorem DT (P:Nat->Prop) (w:World) (g:Nat) (hg:P g) (v2:Value) (L S:Int) (Wh:Bool):aa P w ((((w.setCell ⟨g,2,none⟩ (v2)).setCell ⟨g,0,none⟩ (.int .i64 (L - 1))).setCell ⟨g,1,none⟩ (.int .i64 (S+1))).setCell ⟨g,3,none⟩ (.bool (!Wh))):=(((((aa.refl _ w).setCell (p:=⟨g,2,none⟩) hg (v2)).setCell (p:=⟨g,0,none⟩) hg (.int .i64 (L - 1))).setCell (p:=⟨g,1,none⟩) hg (.int .i64 (S+1))).setCell (p:=⟨g,3,none⟩) hg (.bool (!Wh)))
theorem CW {g B:Nat} {v:Value} {s:gk} {w:World} (h:dm w g B v s) (c:UInt8) (x:Int) (hx:x=c.toNat) (h1:0<=s.left) (h2:s.left<=1000000) (h3:0<=s.spent) (h4:s.spent<=1000000) (h5:s.line.length<=1000000):
 Calls Tryz.prog 88 #[.pointer (some ⟨g,0,none⟩),.int .u8 x] w fun e w'=>e=.returned (.int .i64 (bz s c).2)/\∃v',dm w' g B v' (bz s c).1/\aa (vT g v) w w'/\(v'.ownBlock=v.ownBlock\/∀k,v'.ownBlock=some k->w.heap.size<=k):=by
 obtain⟨L,S,Ln,Wi,Tu,Wh,E⟩:=s;simp only at h1 h2 h3 h4 h5;have a0:w.cell? ⟨g,0,none⟩=some (.int .i64 L):=h.b.cell 0;have f0:w.frozen? ⟨g,0,none⟩=false:=h.b.froz 0;have a1:w.cell? ⟨g,1,none⟩=some (.int .i64 S):=h.b.cell 1;have f1:w.frozen? ⟨g,1,none⟩=false:=h.b.froz 1;have a2:w.cell? ⟨g,2,none⟩=some (v):=h.b.cell 2;have f2:w.frozen? ⟨g,2,none⟩=false:=h.b.froz 2;have a3:w.cell? ⟨g,3,none⟩=some (.bool Wi):=h.b.cell 3;have f3:w.frozen? ⟨g,3,none⟩=false:=h.b.froz 3;have a4:w.cell? ⟨g,4,none⟩=some (.bool Tu):=h.b.cell 4;have f4:w.frozen? ⟨g,4,none⟩=false:=h.b.froz 4;have a5:w.cell? ⟨g,5,none⟩=some (.bool Wh):=h.b.cell 5;have f5:w.frozen? ⟨g,5,none⟩=false:=h.b.froz 5;have a6:w.cell? ⟨g,6,none⟩=some (.int .i64 E):=h.b.cell 6;have f6:w.frozen? ⟨g,6,none⟩=false:=h.b.froz 6;have H:=lH h;have hlt:=h.b.lt;obtain⟨R,hR⟩:∃R,R=bz ⟨L,S,Ln,Wi,Tu,Wh,E⟩ c:=⟨_,rfl⟩;rw[<-hR];clear h;by_cases e0:L=0
 ·have d0:(L==0)=true:=by rw[FA];exact e0
  have hR:R=(⟨L,S,Ln,Wi,Tu,Wh,E⟩,4):=by rw[hR];unfold bz;rw[if_pos e0]
  subst hR;clear e0 hR;go_enter Tryz.func88,Tryz.ntmps88
  go_wp2_with fail
  go_ret;exact⟨rfl,v,H.out,aa.refl _ _,Or.inl rfl⟩
 have d0:(L==0)=false:=by rw[EJ];exact e0
 rw[Dp _ _ _ _ _ _ _ _ e0] at hR;have HR:=lH hR;have hw1:wrap64 (L - 1)=L - 1:=FY _ ⟨by omega,by omega⟩;have hw2:wrap64 (S+1)=S+1:=FY _ ⟨by omega,by omega⟩;clear hR e0 h1 h2 h3 h4
 have hc10:decide (c=10)=(x==10):=by
  rw[hx];by_cases e:c=10
  ·subst e;rfl
  ·rw[dF e,eq_comm,EJ]
   intro k
   exact e (Fg.1 (by
    have:c.toNat=10:=by omega
    simpa using this))
 have hc13:decide (c=13)=(x==13):=by
  rw[hx];by_cases e:c=13
  ·subst e;rfl
  ·rw[dF e,eq_comm,EJ]
   intro k
   exact e (Fg.1 (by
    have:c.toNat=13:=by omega
    simpa using this))
 have HX:=lH hx;clear hx
 have h1013:(x==10)=true->(x==13)=false:=by
  intro k;rw[FA] at k;rw[k];rfl
 cases k10:(x==10) with
 | true=>
   have k13:=h1013 k10;have HC:=lH (And.intro (hc10.trans k10) (hc13.trans k13));clear hc10 hc13 h1013;cases Tu with
   | false=>
     have hR:R=(⟨L,S,Ln,Wi,false,Wh,E⟩,8):=by rw[HR.out,HC.out.1];rfl
     subst hR;go_enter Tryz.func88,Tryz.ntmps88
     go_wp2_with fail
     go_ret;exact⟨rfl,v,H.out,aa.refl _ _,Or.inl rfl⟩
   | true=>
     have hR:R=(⟨L - 1,S+1,Ln,false,false,true,E⟩,0):=by rw[HR.out,HC.out.1,HC.out.2];rfl
     subst hR;go_enter Tryz.func88,Tryz.ntmps88
     go_wp2_with fail
     go_ret;have T1:=DF (vT g v) w g (Or.inl rfl) v L S Wh;have T2:=DF (fun j=>j=g) w g rfl v L S Wh;have K1:=ln_lf v H.out.b;refine⟨rfl,v,⟨K1,ab H.out.o T2 (fun k hk e=>absurd (H.out.o.lt k hk).1 (by have:=H.out.lt;omega)),H.out.lt,nT H.out.sz T1.size⟩,T1,Or.inl rfl⟩
 | false=>
   cases Tu with
   | true=>
     have HC:=lH (And.intro (hc10.trans k10) (True.intro));clear hc10 hc13 h1013;have hR:R=(⟨L,S,Ln,Wi,true,Wh,E⟩,8):=by rw[HR.out,HC.out.1];rfl
     subst hR;go_enter Tryz.func88,Tryz.ntmps88
     go_wp2_with fail
     go_ret;exact⟨rfl,v,H.out,aa.refl _ _,Or.inl rfl⟩
   | false=>
     cases k13:(x==13) with
     | true=>
       have HC:=lH (And.intro (hc10.trans k10) (hc13.trans k13));clear hc10 hc13 h1013;have hR:R=(⟨L - 1,S+1,Ln,!Wh,true,Wh,E⟩,0):=by rw[HR.out,HC.out.1,HC.out.2];rfl
       subst hR;go_enter Tryz.func88,Tryz.ntmps88
       go_wp2_with fail
       go_ret;have T1:=DY (vT g v) w g (Or.inl rfl) v L S Wh;have T2:=DY (fun j=>j=g) w g rfl v L S Wh;have K1:=ln_cr v H.out.b;refine⟨rfl,v,⟨K1,ab H.out.o T2 (fun k hk e=>absurd (H.out.o.lt k hk).1 (by have:=H.out.lt;omega)),H.out.lt,nT H.out.sz T1.size⟩,T1,Or.inl rfl⟩
     | false=>
       have HC:=lH (And.intro (hc10.trans k10) (hc13.trans k13));clear hc10 hc13 h1013;have hR:R=(⟨L - 1,S+1,Ln++[c],!Wh,false,Wh,E⟩,0):=by rw[HR.out,HC.out.1,HC.out.2];rfl
       subst hR;have H5:=lH h5;clear h5;go_enter Tryz.func88,Tryz.ntmps88
       go_wp2_with (at_builtin;refine bU rfl _ _ rfl rfl H.out.o c x HX.out rfl H5.out H.out.sz ?_;intro g1 c1 w1 ho1 ht1 hg1;have hne:∀j,v.ownBlock=some j->j≠g:=fun j hj e=>absurd (H.out.o.lt j hj).1 (by have:=H.out.lt;omega);have b1:af w1 g _ _:=H.out.b.touch ht1 (fun e=>hne g e rfl);have a0:w1.cell? ⟨g,0,none⟩=some (.int .i64 L):=b1.cell 0;have a1:w1.cell? ⟨g,1,none⟩=some (.int .i64 S):=b1.cell 1;have a2:w1.cell? ⟨g,2,none⟩=some v:=b1.cell 2;have a3:w1.cell? ⟨g,3,none⟩=some (.bool Wi):=b1.cell 3;have a5:w1.cell? ⟨g,5,none⟩=some (.bool Wh):=b1.cell 5;have f0:w1.frozen? ⟨g,0,none⟩=false:=b1.froz 0;have f1:w1.frozen? ⟨g,1,none⟩=false:=b1.froz 1;have f2:w1.frozen? ⟨g,2,none⟩=false:=b1.froz 2;have f3:w1.frozen? ⟨g,3,none⟩=false:=b1.froz 3;have B1:=lH b1;have HO1:=lH ho1;have HT1:=lH ht1;have HG1:Hid (v.ownBlock=some g1\/w.heap.size<=g1):=hg1;clear b1 ho1 ht1 hg1 hne)
       go_ret;have T1:=DT (vT g v) w1 g (Or.inl rfl) (.slice (some ⟨g1,0,none⟩) (Ln.length+1) c1) L S Wh;have T2:=DT (fun j=>j=g) w1 g rfl (.slice (some ⟨g1,0,none⟩) (Ln.length+1) c1) L S Wh;have K1:=ln_ap (.slice (some ⟨g1,0,none⟩) (Ln.length+1) c1) B1.out;have T0:aa (vT g v) w w1:=HT1.out.mono (fun j _ hj=>Or.inr hj);have hg:g<B:=H.out.lt;have hsz:=H.out.sz;have hT1:=T0.size;have hT2:=T1.size;have ho:eC ((((w1.setCell ⟨g,2,none⟩ (.slice (some ⟨g1,0,none⟩) (Ln.length+1) c1)).setCell ⟨g,0,none⟩ (.int .i64 (L - 1))).setCell ⟨g,1,none⟩ (.int .i64 (S+1))).setCell ⟨g,3,none⟩ (.bool (!Wh))) B (.slice (some ⟨g1,0,none⟩) (Ln.length+1) c1) (Ln++[c]):=ab HO1.out T2 (fun k hk e=>absurd (eC.lt HO1.out k hk).1 (by omega));refine⟨rfl,.slice (some ⟨g1,0,none⟩) (Ln.length+1) c1,⟨K1,ho,hg,by omega⟩,T0.trans T1,?_⟩;rcases HG1.out with hg1|hg1
       ·left;rw[hg1];rfl
       ·right
        intro k hk;have:g1=k:=by injection hk
        rw[<-this];exact hg1
end Go.Proofs.YthjbodpeckebiaaGreatDoor
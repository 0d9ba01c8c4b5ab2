/- Texts packed for one claim, 47 of 52: MsB MsF MsC MsT MsN MsM MsQ MsR MsS MsU MsV MsO MsW. -/
import Derived.Test.YthjbodpeckebiaaGreatDoorMrsQ39
import Derived.Test.YthjbodpeckebiaaGreatDoorMrsQ46
import Derived.Test.YthjbodpeckebiaaGreatDoorMrsQ29
import Derived.Test.YthjbodpeckebiaaGreatDoorMrsQ38
import Derived.Test.YthjbodpeckebiaaGreatDoorMrsQ20
import Derived.Test.YthjbodpeckebiaaGreatDoorMrsQ32
import Derived.Test.YthjbodpeckebiaaGreatDoorMrsQ5
set_option maxRecDepth 100000
set_option maxHeartbeats 16000000
set_option linter.unusedSimpArgs false
set_option linter.unusedVariables false
-- MsB
namespace Go.Proofs.YthjbodpeckebiaaGreatDoor
open Go.RowKit
theorem iZ (n:Nat):n<=n+1+1:=by omega
theorem fx (n e:Int) (w:World):Calls Tryz.prog 46 #[.int .i64 n,.int .i64 e] w fun x w'=>x=.returned (.agg #[.int .i64 2,.int .i64 n,.int .i64 e])/\Below w.heap.size w w':=by
 go_enter Tryz.func46,Tryz.ntmps46
 go_wp2_with fail
 refine EW (results_cell_row (Tryz.results46) _ _ w.heap.size 74 #[.int .i64 2,.int .i64 n,.int .i64 e] (0,0) _ rfl ?_ Tryz.underlying74 rfl (by kernel_rfl)) rfl ⟨rfl,?_⟩
 ·exact af.new _ _ _
 ·exact(EK w.heap.size w).alloc (nR _) _
theorem gp (c0 c1 c2 c3 c4 c5 c6 c7 c8 c9 c10:Value) (n:Int) (w:World):Calls Tryz.prog 33 #[.agg #[c0,c1,c2,c3,c4,c5,c6,c7,c8,c9,c10,.int .i64 n]] w fun x w'=>x=.returned (.int .i64 n)/\Below w.heap.size w w':=by
 go_enter Tryz.func33,Tryz.ntmps33
 go_wp2_with fail
 go_ret;exact⟨rfl,(EK w.heap.size w).alloc (nR _) _⟩
theorem uP (x:ByteArray) (closed:Bool) (a fields c d fold:Int) (h:Hd) (f:Value) (method:ByteArray) (w:World) (hf:cu w f h.fs) (ok:iR h.fs):
 Calls Tryz.prog 50 #[.agg #[.string x,.bool closed,.int .i64 a,.int .i64 fields,.int .i64 c,.int .i64 d,.int .i64 fold,.int .i64 1],.agg #[.string h.m,.string h.t,.int .i64 h.k,.int .i64 h.n,.string h.r,f],.string method] w fun e w'=>e=.returned (.tuple #[.agg #[.int .i64 (cD 1 h method).1,.int .i64 (cD 1 h method).2.1],.int .i64 (cD 1 h method).2.2])/\Below w.heap.size w w':=by
 have HQ:=lH (fun(W:World) hW=>nk h.m h.t h.r h.k h.n f h.fs W hW ok);obtain⟨v1,v2,v3,hV⟩:∃v1 v2 v3,cD 1 h method=(v1,v2,v3):=⟨_,_,_,rfl⟩;rw[hV];unfold cD at hV;rw[if_pos rfl] at hV;rw[hV] at HQ;simp only at HQ ⊢;clear hV ok;have K0:=lH (((af.new w #[.string x,.bool closed,.int .i64 a,.int .i64 fields,.int .i64 c,.int .i64 d,.int .i64 fold,.int .i64 1] 67).alloc (.cells #[.string h.m,.string h.t,.int .i64 h.k,.int .i64 h.n,.string h.r,f] 44)).alloc (.cells #[.int .i64 0,.int .i64 0] 46));have KH0:af (((w.alloc (.cells #[.string x,.bool closed,.int .i64 a,.int .i64 fields,.int .i64 c,.int .i64 d,.int .i64 fold,.int .i64 1] 67)).alloc (.cells #[.string h.m,.string h.t,.int .i64 h.k,.int .i64 h.n,.string h.r,f] 44)).alloc (.cells #[.int .i64 0,.int .i64 0] 46)) (w.heap.size+1) #[.string h.m,.string h.t,.int .i64 h.k,.int .i64 h.n,.string h.r,f] 44:=(af.new' (by simp)).alloc _;have KF0:af (((w.alloc (.cells #[.string x,.bool closed,.int .i64 a,.int .i64 fields,.int .i64 c,.int .i64 d,.int .i64 fold,.int .i64 1] 67)).alloc (.cells #[.string h.m,.string h.t,.int .i64 h.k,.int .i64 h.n,.string h.r,f] 44)).alloc (.cells #[.int .i64 0,.int .i64 0] 46)) (w.heap.size+2) #[.int .i64 0,.int .i64 0] 46:=af.new' (by simp);replace KH0:=lH KH0;replace KF0:=lH KF0;have B0:=lH ((((EK w.heap.size w).alloc (nR _) (.cells #[.string x,.bool closed,.int .i64 a,.int .i64 fields,.int .i64 c,.int .i64 d,.int .i64 fold,.int .i64 1] 67)).alloc (by simp) (.cells #[.string h.m,.string h.t,.int .i64 h.k,.int .i64 h.n,.string h.r,f] 44)).alloc (by simp;omega) (.cells #[.int .i64 0,.int .i64 0] 46))
 have F0:=lH (hf.below B0.out);have y07:=K0.out.cell 7;simp at y07;have h00:=KH0.out.cell 0;have gh00:=KH0.out.froz 0;have h01:=KH0.out.cell 1;have gh01:=KH0.out.froz 1;have h02:=KH0.out.cell 2;have gh02:=KH0.out.froz 2;have h03:=KH0.out.cell 3;have gh03:=KH0.out.froz 3;have h04:=KH0.out.cell 4;have gh04:=KH0.out.froz 4;have h05:=KH0.out.cell 5;have gh05:=KH0.out.froz 5;simp at h00 h01 h02 h03 h04 h05;have a00:=KF0.out.cell 0;have ga00:=KF0.out.froz 0;have a01:=KF0.out.cell 1;have ga01:=KF0.out.froz 1;simp at a00 a01;clear hf;go_enter Tryz.func50,Tryz.ntmps50
 go_wp2_with (go_at_call 73;refine(HQ.out _ F0.out).mono ?_;rintro e1 w1 ⟨rfl,hb⟩;have KH1:=lH (KH0.out.call hb);have KF1:=lH (KF0.out.call hb);have B1:=lH (B0.out.trans (hb.mono B0.out.size));clear hb;have h10:=KH1.out.cell 0;have gh10:=KH1.out.froz 0;have h11:=KH1.out.cell 1;have gh11:=KH1.out.froz 1;have h12:=KH1.out.cell 2;have gh12:=KH1.out.froz 2;have h13:=KH1.out.cell 3;have gh13:=KH1.out.froz 3;have h14:=KH1.out.cell 4;have gh14:=KH1.out.froz 4;have h15:=KH1.out.cell 5;have gh15:=KH1.out.froz 5;simp at h10 h11 h12 h13 h14 h15;have a10:=KF1.out.cell 0;have ga10:=KF1.out.froz 0;have a11:=KF1.out.cell 1;have ga11:=KF1.out.froz 1;simp at a10 a11)
 exact EW (ai Tryz.results50 _ _ _ _ rfl (E7 _ _ _ _ _ _ _ (cC KF1.out _ _) Tryz.underlying46 rfl (by kernel_rfl))) rfl ⟨rfl,(B1.out.setCell (iZ _) _).setCell (iZ _) _⟩
theorem uu (x:ByteArray) (closed:Bool) (a fields c d fold:Int) (h:Hd) (f:Value) (method:ByteArray) (w:World) (hf:cu w f h.fs) (ok:iR h.fs):
 Calls Tryz.prog 50 #[.agg #[.string x,.bool closed,.int .i64 a,.int .i64 fields,.int .i64 c,.int .i64 d,.int .i64 fold,.int .i64 2],.agg #[.string h.m,.string h.t,.int .i64 h.k,.int .i64 h.n,.string h.r,f],.string method] w fun e w'=>e=.returned (.tuple #[.agg #[.int .i64 (cD 2 h method).1,.int .i64 (cD 2 h method).2.1],.int .i64 (cD 2 h method).2.2])/\Below w.heap.size w w':=by
 have HQ:=lH (fun(W:World) hW=>rq h.m h.t h.r h.k h.n f h.fs method W hW ok);obtain⟨v1,v2,v3,hV⟩:∃v1 v2 v3,fK h.fs h.k h.n method=(v1,v2,v3):=⟨_,_,_,rfl⟩;unfold cD;rw[if_neg (show ¬((2:Int)=1) by decide),hV];rw[hV] at HQ;simp only at HQ ⊢;clear hV ok;obtain⟨hm,ht,hk,hn,hr,hfs⟩:=h;simp only at hf HQ ⊢;by_cases h0:v3=0
 ·subst h0
  by_cases h1:hn=101
  ·subst h1
   rw[if_pos ⟨rfl,rfl⟩];have K0:=lH (((af.new w #[.string x,.bool closed,.int .i64 a,.int .i64 fields,.int .i64 c,.int .i64 d,.int .i64 fold,.int .i64 2] 67).alloc (.cells #[.string hm,.string ht,.int .i64 hk,.int .i64 101,.string hr,f] 44)).alloc (.cells #[.int .i64 0,.int .i64 0] 46));have KH0:af (((w.alloc (.cells #[.string x,.bool closed,.int .i64 a,.int .i64 fields,.int .i64 c,.int .i64 d,.int .i64 fold,.int .i64 2] 67)).alloc (.cells #[.string hm,.string ht,.int .i64 hk,.int .i64 101,.string hr,f] 44)).alloc (.cells #[.int .i64 0,.int .i64 0] 46)) (w.heap.size+1) #[.string hm,.string ht,.int .i64 hk,.int .i64 101,.string hr,f] 44:=(af.new' (by simp)).alloc _;have KF0:af (((w.alloc (.cells #[.string x,.bool closed,.int .i64 a,.int .i64 fields,.int .i64 c,.int .i64 d,.int .i64 fold,.int .i64 2] 67)).alloc (.cells #[.string hm,.string ht,.int .i64 hk,.int .i64 101,.string hr,f] 44)).alloc (.cells #[.int .i64 0,.int .i64 0] 46)) (w.heap.size+2) #[.int .i64 0,.int .i64 0] 46:=af.new' (by simp);replace KH0:=lH KH0;replace KF0:=lH KF0;have B0:=lH ((((EK w.heap.size w).alloc (nR _) (.cells #[.string x,.bool closed,.int .i64 a,.int .i64 fields,.int .i64 c,.int .i64 d,.int .i64 fold,.int .i64 2] 67)).alloc (by simp) (.cells #[.string hm,.string ht,.int .i64 hk,.int .i64 101,.string hr,f] 44)).alloc (by simp;omega) (.cells #[.int .i64 0,.int .i64 0] 46));have F0:=lH (hf.below B0.out)
   have y07:=K0.out.cell 7;simp at y07;have h00:=KH0.out.cell 0;have gh00:=KH0.out.froz 0;have h01:=KH0.out.cell 1;have gh01:=KH0.out.froz 1;have h02:=KH0.out.cell 2;have gh02:=KH0.out.froz 2;have h03:=KH0.out.cell 3;have gh03:=KH0.out.froz 3;have h04:=KH0.out.cell 4;have gh04:=KH0.out.froz 4;have h05:=KH0.out.cell 5;have gh05:=KH0.out.froz 5;simp at h00 h01 h02 h03 h04 h05;have a00:=KF0.out.cell 0;have ga00:=KF0.out.froz 0;have a01:=KF0.out.cell 1;have ga01:=KF0.out.froz 1;simp at a00 a01;clear hf;go_enter Tryz.func50,Tryz.ntmps50
   go_wp2_with (go_at_call 74;refine(HQ.out _ F0.out).mono ?_;rintro e1 w1 ⟨rfl,hb⟩;have KH1:=lH (KH0.out.call hb);have KF1:=lH (KF0.out.call hb);have B1:=lH (B0.out.trans (hb.mono B0.out.size));clear hb;have h10:=KH1.out.cell 0;have gh10:=KH1.out.froz 0;have h11:=KH1.out.cell 1;have gh11:=KH1.out.froz 1;have h12:=KH1.out.cell 2;have gh12:=KH1.out.froz 2;have h13:=KH1.out.cell 3;have gh13:=KH1.out.froz 3;have h14:=KH1.out.cell 4;have gh14:=KH1.out.froz 4;have h15:=KH1.out.cell 5;have gh15:=KH1.out.froz 5;simp at h10 h11 h12 h13 h14 h15;have a10:=KF1.out.cell 0;have ga10:=KF1.out.froz 0;have a11:=KF1.out.cell 1;have ga11:=KF1.out.froz 1;simp at a10 a11;have c20:(w1.alloc (.cells #[.int .i64 v1,.int .i64 v2] 46)).cell? ⟨w.heap.size+2,0,none⟩=some (.int .i64 0):=(KF1.out.alloc _).cell 0;have d20:(w1.alloc (.cells #[.int .i64 v1,.int .i64 v2] 46)).frozen? ⟨w.heap.size+2,0,none⟩=false:=(KF1.out.alloc _).froz 0;have c21:(w1.alloc (.cells #[.int .i64 v1,.int .i64 v2] 46)).cell? ⟨w.heap.size+2,1,none⟩=some (.int .i64 0):=(KF1.out.alloc _).cell 1;have d21:(w1.alloc (.cells #[.int .i64 v1,.int .i64 v2] 46)).frozen? ⟨w.heap.size+2,1,none⟩=false:=(KF1.out.alloc _).froz 1;have e20:(w1.alloc (.cells #[.int .i64 v1,.int .i64 v2] 46)).cell? ⟨w.heap.size+1,0,none⟩=some (.string hm):=(KH1.out.alloc _).cell 0;have e21:(w1.alloc (.cells #[.int .i64 v1,.int .i64 v2] 46)).cell? ⟨w.heap.size+1,1,none⟩=some (.string ht):=(KH1.out.alloc _).cell 1;have e22:(w1.alloc (.cells #[.int .i64 v1,.int .i64 v2] 46)).cell? ⟨w.heap.size+1,2,none⟩=some (.int .i64 hk):=(KH1.out.alloc _).cell 2;have e23:(w1.alloc (.cells #[.int .i64 v1,.int .i64 v2] 46)).cell? ⟨w.heap.size+1,3,none⟩=some (.int .i64 101):=(KH1.out.alloc _).cell 3;have e24:(w1.alloc (.cells #[.int .i64 v1,.int .i64 v2] 46)).cell? ⟨w.heap.size+1,4,none⟩=some (.string hr):=(KH1.out.alloc _).cell 4;have e25:(w1.alloc (.cells #[.int .i64 v1,.int .i64 v2] 46)).cell? ⟨w.heap.size+1,5,none⟩=some f:=(KH1.out.alloc _).cell 5)
   exact EW (ai Tryz.results50 _ _ _ _ rfl (E7 _ _ _ _ _ _ _ (cC (KF1.out.alloc _) _ _) Tryz.underlying46 rfl (by kernel_rfl))) rfl ⟨rfl,((B1.out.alloc B1.out.size _).setCell (iZ _) _).setCell (iZ _) _⟩
  ·rw[if_neg (fun e=>h1 e.2)]
   have q1:(hn==101)=false:=by rw[EJ];exact h1
   clear h1;have K0:=lH (((af.new w #[.string x,.bool closed,.int .i64 a,.int .i64 fields,.int .i64 c,.int .i64 d,.int .i64 fold,.int .i64 2] 67).alloc (.cells #[.string hm,.string ht,.int .i64 hk,.int .i64 hn,.string hr,f] 44)).alloc (.cells #[.int .i64 0,.int .i64 0] 46));have KH0:af (((w.alloc (.cells #[.string x,.bool closed,.int .i64 a,.int .i64 fields,.int .i64 c,.int .i64 d,.int .i64 fold,.int .i64 2] 67)).alloc (.cells #[.string hm,.string ht,.int .i64 hk,.int .i64 hn,.string hr,f] 44)).alloc (.cells #[.int .i64 0,.int .i64 0] 46)) (w.heap.size+1) #[.string hm,.string ht,.int .i64 hk,.int .i64 hn,.string hr,f] 44:=(af.new' (by simp)).alloc _;have KF0:af (((w.alloc (.cells #[.string x,.bool closed,.int .i64 a,.int .i64 fields,.int .i64 c,.int .i64 d,.int .i64 fold,.int .i64 2] 67)).alloc (.cells #[.string hm,.string ht,.int .i64 hk,.int .i64 hn,.string hr,f] 44)).alloc (.cells #[.int .i64 0,.int .i64 0] 46)) (w.heap.size+2) #[.int .i64 0,.int .i64 0] 46:=af.new' (by simp);replace KH0:=lH KH0;replace KF0:=lH KF0;have B0:=lH ((((EK w.heap.size w).alloc (nR _) (.cells #[.string x,.bool closed,.int .i64 a,.int .i64 fields,.int .i64 c,.int .i64 d,.int .i64 fold,.int .i64 2] 67)).alloc (by simp) (.cells #[.string hm,.string ht,.int .i64 hk,.int .i64 hn,.string hr,f] 44)).alloc (by simp;omega) (.cells #[.int .i64 0,.int .i64 0] 46));have F0:=lH (hf.below B0.out);have y07:=K0.out.cell 7
   simp at y07;have h00:=KH0.out.cell 0;have gh00:=KH0.out.froz 0;have h01:=KH0.out.cell 1;have gh01:=KH0.out.froz 1;have h02:=KH0.out.cell 2;have gh02:=KH0.out.froz 2;have h03:=KH0.out.cell 3;have gh03:=KH0.out.froz 3;have h04:=KH0.out.cell 4;have gh04:=KH0.out.froz 4;have h05:=KH0.out.cell 5;have gh05:=KH0.out.froz 5;simp at h00 h01 h02 h03 h04 h05;have a00:=KF0.out.cell 0;have ga00:=KF0.out.froz 0;have a01:=KF0.out.cell 1;have ga01:=KF0.out.froz 1;simp at a00 a01;clear hf;go_enter Tryz.func50,Tryz.ntmps50
   go_wp2_with (go_at_call 74;refine(HQ.out _ F0.out).mono ?_;rintro e1 w1 ⟨rfl,hb⟩;have KH1:=lH (KH0.out.call hb);have KF1:=lH (KF0.out.call hb);have B1:=lH (B0.out.trans (hb.mono B0.out.size));clear hb;have h10:=KH1.out.cell 0;have gh10:=KH1.out.froz 0;have h11:=KH1.out.cell 1;have gh11:=KH1.out.froz 1;have h12:=KH1.out.cell 2;have gh12:=KH1.out.froz 2;have h13:=KH1.out.cell 3;have gh13:=KH1.out.froz 3;have h14:=KH1.out.cell 4;have gh14:=KH1.out.froz 4;have h15:=KH1.out.cell 5;have gh15:=KH1.out.froz 5;simp at h10 h11 h12 h13 h14 h15;have a10:=KF1.out.cell 0;have ga10:=KF1.out.froz 0;have a11:=KF1.out.cell 1;have ga11:=KF1.out.froz 1;simp at a10 a11;have c20:(w1.alloc (.cells #[.int .i64 v1,.int .i64 v2] 46)).cell? ⟨w.heap.size+2,0,none⟩=some (.int .i64 0):=(KF1.out.alloc _).cell 0;have d20:(w1.alloc (.cells #[.int .i64 v1,.int .i64 v2] 46)).frozen? ⟨w.heap.size+2,0,none⟩=false:=(KF1.out.alloc _).froz 0;have c21:(w1.alloc (.cells #[.int .i64 v1,.int .i64 v2] 46)).cell? ⟨w.heap.size+2,1,none⟩=some (.int .i64 0):=(KF1.out.alloc _).cell 1;have d21:(w1.alloc (.cells #[.int .i64 v1,.int .i64 v2] 46)).frozen? ⟨w.heap.size+2,1,none⟩=false:=(KF1.out.alloc _).froz 1;have e20:(w1.alloc (.cells #[.int .i64 v1,.int .i64 v2] 46)).cell? ⟨w.heap.size+1,0,none⟩=some (.string hm):=(KH1.out.alloc _).cell 0;have e21:(w1.alloc (.cells #[.int .i64 v1,.int .i64 v2] 46)).cell? ⟨w.heap.size+1,1,none⟩=some (.string ht):=(KH1.out.alloc _).cell 1;have e22:(w1.alloc (.cells #[.int .i64 v1,.int .i64 v2] 46)).cell? ⟨w.heap.size+1,2,none⟩=some (.int .i64 hk):=(KH1.out.alloc _).cell 2;have e23:(w1.alloc (.cells #[.int .i64 v1,.int .i64 v2] 46)).cell? ⟨w.heap.size+1,3,none⟩=some (.int .i64 hn):=(KH1.out.alloc _).cell 3;have e24:(w1.alloc (.cells #[.int .i64 v1,.int .i64 v2] 46)).cell? ⟨w.heap.size+1,4,none⟩=some (.string hr):=(KH1.out.alloc _).cell 4;have e25:(w1.alloc (.cells #[.int .i64 v1,.int .i64 v2] 46)).cell? ⟨w.heap.size+1,5,none⟩=some f:=(KH1.out.alloc _).cell 5)
   exact EW (ai Tryz.results50 _ _ _ _ rfl (E7 _ _ _ _ _ _ _ (cC (KF1.out.alloc _) _ _) Tryz.underlying46 rfl (by kernel_rfl))) rfl ⟨rfl,((B1.out.alloc B1.out.size _).setCell (iZ _) _).setCell (iZ _) _⟩
 ·rw[if_neg (fun e=>h0 e.1)]
  have q0:(v3==0)=false:=by rw[EJ];exact h0
  clear h0;have K0:=lH (((af.new w #[.string x,.bool closed,.int .i64 a,.int .i64 fields,.int .i64 c,.int .i64 d,.int .i64 fold,.int .i64 2] 67).alloc (.cells #[.string hm,.string ht,.int .i64 hk,.int .i64 hn,.string hr,f] 44)).alloc (.cells #[.int .i64 0,.int .i64 0] 46));have KH0:af (((w.alloc (.cells #[.string x,.bool closed,.int .i64 a,.int .i64 fields,.int .i64 c,.int .i64 d,.int .i64 fold,.int .i64 2] 67)).alloc (.cells #[.string hm,.string ht,.int .i64 hk,.int .i64 hn,.string hr,f] 44)).alloc (.cells #[.int .i64 0,.int .i64 0] 46)) (w.heap.size+1) #[.string hm,.string ht,.int .i64 hk,.int .i64 hn,.string hr,f] 44:=(af.new' (by simp)).alloc _;have KF0:af (((w.alloc (.cells #[.string x,.bool closed,.int .i64 a,.int .i64 fields,.int .i64 c,.int .i64 d,.int .i64 fold,.int .i64 2] 67)).alloc (.cells #[.string hm,.string ht,.int .i64 hk,.int .i64 hn,.string hr,f] 44)).alloc (.cells #[.int .i64 0,.int .i64 0] 46)) (w.heap.size+2) #[.int .i64 0,.int .i64 0] 46:=af.new' (by simp);replace KH0:=lH KH0;replace KF0:=lH KF0;have B0:=lH ((((EK w.heap.size w).alloc (nR _) (.cells #[.string x,.bool closed,.int .i64 a,.int .i64 fields,.int .i64 c,.int .i64 d,.int .i64 fold,.int .i64 2] 67)).alloc (by simp) (.cells #[.string hm,.string ht,.int .i64 hk,.int .i64 hn,.string hr,f] 44)).alloc (by simp;omega) (.cells #[.int .i64 0,.int .i64 0] 46));have F0:=lH (hf.below B0.out);have y07:=K0.out.cell 7
  simp at y07;have h00:=KH0.out.cell 0;have gh00:=KH0.out.froz 0;have h01:=KH0.out.cell 1;have gh01:=KH0.out.froz 1;have h02:=KH0.out.cell 2;have gh02:=KH0.out.froz 2;have h03:=KH0.out.cell 3;have gh03:=KH0.out.froz 3;have h04:=KH0.out.cell 4;have gh04:=KH0.out.froz 4;have h05:=KH0.out.cell 5;have gh05:=KH0.out.froz 5;simp at h00 h01 h02 h03 h04 h05;have a00:=KF0.out.cell 0;have ga00:=KF0.out.froz 0;have a01:=KF0.out.cell 1;have ga01:=KF0.out.froz 1;simp at a00 a01;clear hf;go_enter Tryz.func50,Tryz.ntmps50
  go_wp2_with (go_at_call 74;refine(HQ.out _ F0.out).mono ?_;rintro e1 w1 ⟨rfl,hb⟩;have KH1:=lH (KH0.out.call hb);have KF1:=lH (KF0.out.call hb);have B1:=lH (B0.out.trans (hb.mono B0.out.size));clear hb;have h10:=KH1.out.cell 0;have gh10:=KH1.out.froz 0;have h11:=KH1.out.cell 1;have gh11:=KH1.out.froz 1;have h12:=KH1.out.cell 2;have gh12:=KH1.out.froz 2;have h13:=KH1.out.cell 3;have gh13:=KH1.out.froz 3;have h14:=KH1.out.cell 4;have gh14:=KH1.out.froz 4;have h15:=KH1.out.cell 5;have gh15:=KH1.out.froz 5;simp at h10 h11 h12 h13 h14 h15;have a10:=KF1.out.cell 0;have ga10:=KF1.out.froz 0;have a11:=KF1.out.cell 1;have ga11:=KF1.out.froz 1;simp at a10 a11;have c20:(w1.alloc (.cells #[.int .i64 v1,.int .i64 v2] 46)).cell? ⟨w.heap.size+2,0,none⟩=some (.int .i64 0):=(KF1.out.alloc _).cell 0;have d20:(w1.alloc (.cells #[.int .i64 v1,.int .i64 v2] 46)).frozen? ⟨w.heap.size+2,0,none⟩=false:=(KF1.out.alloc _).froz 0;have c21:(w1.alloc (.cells #[.int .i64 v1,.int .i64 v2] 46)).cell? ⟨w.heap.size+2,1,none⟩=some (.int .i64 0):=(KF1.out.alloc _).cell 1;have d21:(w1.alloc (.cells #[.int .i64 v1,.int .i64 v2] 46)).frozen? ⟨w.heap.size+2,1,none⟩=false:=(KF1.out.alloc _).froz 1;have e20:(w1.alloc (.cells #[.int .i64 v1,.int .i64 v2] 46)).cell? ⟨w.heap.size+1,0,none⟩=some (.string hm):=(KH1.out.alloc _).cell 0;have e21:(w1.alloc (.cells #[.int .i64 v1,.int .i64 v2] 46)).cell? ⟨w.heap.size+1,1,none⟩=some (.string ht):=(KH1.out.alloc _).cell 1;have e22:(w1.alloc (.cells #[.int .i64 v1,.int .i64 v2] 46)).cell? ⟨w.heap.size+1,2,none⟩=some (.int .i64 hk):=(KH1.out.alloc _).cell 2;have e23:(w1.alloc (.cells #[.int .i64 v1,.int .i64 v2] 46)).cell? ⟨w.heap.size+1,3,none⟩=some (.int .i64 hn):=(KH1.out.alloc _).cell 3;have e24:(w1.alloc (.cells #[.int .i64 v1,.int .i64 v2] 46)).cell? ⟨w.heap.size+1,4,none⟩=some (.string hr):=(KH1.out.alloc _).cell 4;have e25:(w1.alloc (.cells #[.int .i64 v1,.int .i64 v2] 46)).cell? ⟨w.heap.size+1,5,none⟩=some f:=(KH1.out.alloc _).cell 5)
  exact EW (ai Tryz.results50 _ _ _ _ rfl (E7 _ _ _ _ _ _ _ (cC (KF1.out.alloc _) _ _) Tryz.underlying46 rfl (by kernel_rfl))) rfl ⟨rfl,((B1.out.alloc B1.out.size _).setCell (iZ _) _).setCell (iZ _) _⟩
theorem ql (x:ByteArray) (closed:Bool) (a fields c d fold kind:Int) (hk:kind=1\/kind=2) (h:Hd) (f:Value) (method:ByteArray) (w:World) (hf:cu w f h.fs) (ok:iR h.fs):
 Calls Tryz.prog 50 #[.agg #[.string x,.bool closed,.int .i64 a,.int .i64 fields,.int .i64 c,.int .i64 d,.int .i64 fold,.int .i64 kind],.agg #[.string h.m,.string h.t,.int .i64 h.k,.int .i64 h.n,.string h.r,f],.string method] w fun e w'=>e=.returned (.tuple #[.agg #[.int .i64 (cD kind h method).1,.int .i64 (cD kind h method).2.1],.int .i64 (cD kind h method).2.2])/\Below w.heap.size w w':=by
 rcases hk with rfl|rfl
 ·exact uP x closed a fields c d fold h f method w hf ok
 ·exact uu x closed a fields c d fold h f method w hf ok
end Go.Proofs.YthjbodpeckebiaaGreatDoor
-- MsF
namespace Go.Proofs.YthjbodpeckebiaaGreatDoor
open Go.RowKit
def vH (l:List Fd):Nat:=(l.map fun f=>f.1.size+f.2.size).sum
theorem jf (f:Fd) (l:List Fd):vH (f :: l)=f.1.size+f.2.size+vH l:=by unfold vH;simp
theorem Ai (l:List UInt8):(bK l).length<=l.length:=by
 unfold bK;induction l with
 | nil=>exact nR _
 | cons a l ih=>
   rw[Gi];split
   ·simpa using ih
   ·exact EN _
theorem tQ (s:ByteArray):(aN s).1.1.size+(aN s).1.2.size<=s.size:=by
 unfold aN;split
 ·exact EN _
 split
 ·exact EN _
 split
 ·exact EN _
 ·have h1:=Ai s.data.toList
  have h2:=fL ⟨(s.data.toList.drop ((bK s.data.toList).length+1)).toArray⟩;have e0:s.data.toList.length=s.size:=(Lib.size_eq s).symm;have e1:(⟨(bK s.data.toList).toArray⟩:ByteArray).size=(bK s.data.toList).length:=by rw[Lib.size_eq]
  have e2:(⟨(s.data.toList.drop ((bK s.data.toList).length+1)).toArray⟩:ByteArray).size=s.data.toList.length - ((bK s.data.toList).length+1):=by
   rw[Lib.size_eq];exact ES
  simp only;omega
theorem qG:∀l:List ByteArray,vH (jD l).1<=dX l
 | []=>nR _
 | s :: l=>by
   have ih:=qG l;unfold jD;split
   ·exact EN _
   split
   ·exact EN _
   ·have:=tQ s
    show vH ((aN s).1 :: (jD l).1)<=_;rw[jf,bX];omega
theorem zx (fold:Int) (l:List ByteArray):vH (bq fold l).1<=dX l+l.length:=by
 unfold bq;cases h:cY fold l with
 | none=>exact EN _
 | some out=>
   have h1:=pN fold l l.length (nR _) out (by rw[Fh (nR _)];exact h);rw[Fh (nR _)] at h1;exact nT (qG out) h1
theorem vI (kind fields fold:Int) (l:List ByteArray):vH (aH kind fields fold l).1.fs<=dX l+l.length:=by
 unfold aH;split
 ·exact EN _
 cases l with
 | nil=>exact EN _
 | cons s rest=>
   simp only;split
   ·exact EN _
   split
   ·exact EN _
   split
   ·exact EN _
   ·have:=zx fold rest
    rw[bX,EQ];show vH (bq fold rest).1<=_;omega
theorem kn (kind fields fold:Int):∀(L:List (List UInt8)) (at_:Nat) (got:List ByteArray) (h:Hd×Int) (u:Nat) (z:List ByteArray),dE kind fields fold L at_ got=(some (h,u),z)->∃g:List ByteArray,h=aH kind fields fold g/\dX g+g.length+at_<=u+dX got+got.length
 | [],_,_,_,_,_,e=>by cases e
 | l :: r,at_,got,h,u,z,e=>by
   rw[dE] at e;by_cases h1:l≠[]
   ·rw[if_pos h1] at e
    obtain⟨g,h2,h3⟩:=kn kind fields fold r _ _ h u z e;refine⟨g,h2,?_⟩;rw[ic,EY] at h3;have e2:(aw l).size=l.length:=dn l;simp only[EQ,F5] at h3;omega
   ·rw[if_neg h1] at e
    by_cases h2:got≠[]\/kind=2
    ·rw[if_pos h2] at e
     injection e with e1 _
     injection e1 with e1
     injection e1 with e1 e2
     exact⟨got,e1.symm,by omega⟩
    ·rw[if_neg h2] at e
     obtain⟨g,h3,h4⟩:=kn kind fields fold r _ _ h u z e;exact⟨g,h3,by omega⟩
theorem oq (kind fields fold most:Int) (x:List UInt8) (hf:(eG kind fields fold most x).fin=true):vH (eG kind fields fold most x).hd.fs<=x.length/\(eG kind fields fold most x).hd.fs.length<=x.length:=by
 have hp:=mU kind fields fold most x;have hle:=kO kind fields fold x (mt most);have hu:=hp.u;revert hf hu;unfold eG;generalize (cP most x 0 [] false).2=q;obtain⟨z1,z2⟩:∃z,z=dE kind fields fold (cP most x 0 [] false).1 0 []:=⟨_,rfl⟩;rw[<-z2];obtain⟨a,b⟩:=z1;cases a with
 | none=>intro hf;cases hf
 | some hu=>
   obtain⟨h,u⟩:=hu;intro _ hu;obtain⟨g,h1,h2⟩:=kn kind fields fold _ _ _ h u b z2.symm;have hu':((cT kind fields fold x (mt most)).2:Int)=(u:Int):=hu;have s1:=vI kind fields fold g;have s2:=qY kind fields fold g;rw[<-h1] at s1 s2;have e0:dX ([]:List ByteArray)=0:=rfl;rw[e0] at h2;simp only[F5] at h2;constructor
   ·show vH h.1.fs<=_
    omega
   ·show h.1.fs.length<=_
    omega
theorem lJ:∀l:List ByteArray,(bu l).size<=dX l+2*l.length
 | []=>nR _
 | [s]=>by
   rw[bX];show s.size<=_;omega
 | s :: t :: l=>by
   have ih:=lJ (t :: l);have e:bu (s :: t :: l)=s++⟨#[44,32]⟩++bu (t :: l):=rfl;have e2:(⟨#[44,32]⟩:ByteArray).size=2:=rfl;rw[e,F7,F7,e2,bX,EQ];omega
theorem jv (n:ByteArray):∀fs:List Fd,dX (ay fs n)<=vH fs/\(ay fs n).length<=fs.length
 | []=>⟨nR _,nR _⟩
 | f :: l=>by
   have ih:=jv n l;unfold ay at ih ⊢;rw[List.filter_cons];split
   ·rw[List.map_cons,bX,jf,EQ,EQ]
    omega
   ·rw[jf,EQ]
    omega
theorem ut {fs:List Fd} {N:Nat} (h1:vH fs<=N) (h2:fs.length<=N) (hN:N<=100000):iR fs:=by
 have hm:∀g∈fs,g.1.size+g.2.size<=vH fs:=by
  intro g hg;clear h1 h2;induction fs with
  | nil=>cases hg
  | cons f l ih=>
    rw[jf];rcases GT.1 hg with rfl|hg
    ·omega
    ·have:=ih hg
     omega
 refine⟨by omega,fun g hg=>by have:=hm g hg;omega,fun g hg=>by have:=hm g hg;omega,?_⟩;have a:=lJ (ay fs mR);have b:=jv mR fs;omega
theorem vF (m:Lm) (s:ar) (x:List UInt8):(au m s x).1.till=s.till:=by
 have hs:∀y,(s.some y).1.till=s.till:=fun _=>rfl
 have hw:∀y,(s.whole y).1.till=s.till:=fun y=>by
  unfold ar.whole;simp only;split
  ·rfl
  ·rfl
 unfold au;cases s.md<;>(try simp only)<;>(repeat' split)<;>first|rfl|exact hs x|exact hw x
theorem pZ (m:Lm):∀(f:Nat) (s:ar) (x:List UInt8),(cZ m f s x).1.till=s.till
 | 0,_,_=>rfl
 | f+1,s,x=>by
   rw[cZ];split
   ·rfl
   ·show (cZ m f _ _).1.till=_
    rw[pZ m f,vF]
theorem yV (m:Lm):∀(f:Nat) (s:ar) (x:List UInt8),s.opens=false->cZ m f s x=(s,0)
 | 0,_,_,_=>rfl
 | f+1,s,x,h=>by rw[cZ,if_pos (Or.inr h)]
theorem xT (m:Lm) (k n:Int):(aK m k n).opens=true->(aK m k n).till=decide (k=3):=by
 unfold aK;simp only;split
 ·intro h
  rw[dO _ (by decide)] at h;cases h
 split
 ·intro h;cases h
 split
 ·split
  ·intro h;cases h
  ·rename_i h1 _
   intro _;subst h1;rfl
 split
 ·rename_i h1
  intro _;subst h1;rfl
 split
 ·rename_i h1
  intro _;subst h1;rfl
 ·intro h
  rw[dO _ (by decide)] at h;cases h
theorem vx (m:Lm) (k n:Int) (x:List UInt8) (h:(cF m (aK m k n) x).1.opens=true):(cF m (aK m k n) x).1.till=decide (k=3):=by
 unfold cF at h ⊢;rw[pZ];cases ho:(aK m k n).opens with
 | true=>exact xT m k n ho
 | false=>
   rw[yV _ _ _ _ ho,ho] at h;cases h
end Go.Proofs.YthjbodpeckebiaaGreatDoor
-- MsC
namespace Go.Proofs.YthjbodpeckebiaaGreatDoor
open Go.RowKit
theorem an.apart {P:Nat->Prop} {w w1:World} {D n0:Nat} {m:Lm} {s:ar} {V:cU} (h:an w D n0 m s V) (t:aa P w w1) (hP:ey w P [49,3]):an w1 D n0 m s V:=
 ⟨h.k.touch t (hP.not h.k (by decide)),h.d,ab h.o t (hP.own h.o (by decide)),⟨ab h.r.a t (hP.own h.r.a (by decide)),ab h.r.t t (hP.own h.r.t (by decide)),fun e=>(h.r.n e).touch t hP (by decide) (by decide) (by decide),fun e=>(h.r.l e).touch t hP (by decide) (by decide),h.r.u,h.r.f⟩⟩
structure cw (w W:World) (S0:Nat) (R:Array Value) (G:Nat) (h:Hd) (f:Value) (fk fl:Int) (bd:ByteArray) (z t:Value) (sz:List Int):Prop where
 b:Below w.heap.size w W
 s:af W S0 R 67
 g:af W G (wV h f fk fl bd z t) 49
 gl:w.heap.size<=G
 o:ao W w.heap.size f h.fs
 i:bT W w.heap.size z sz
section
variable {w W W1:World} {S0:Nat} {R:Array Value} {G:Nat} {h:Hd} {f:Value} {fk fl:Int} {bd:ByteArray} {z t:Value} {sz:List Int}
theorem cw.call (a:cw w W S0 R G h f fk fl bd z t sz) (hb:Below W.heap.size W W1):cw w W1 S0 R G h f fk fl bd z t sz:=
 ⟨a.b.trans (hb.mono a.b.size),a.s.call hb,a.g.call hb,a.gl,a.o.call hb,a.i.call hb⟩
theorem cw.bod {D n0:Nat} {m:Lm} {s:ar} {V V1:cU} (a:cw w W S0 R G h f fk fl bd z t sz) (d:an W D n0 m s V) (go:aS W W1 D V V1) (hn:w.heap.size<=n0):cw w W1 S0 R G h f fk fl bd z t sz:=
 ⟨a.b.trans ((d.below go).mono hn),a.s.touch go.t (d.far a.s (by decide)),a.g.touch go.t (d.far a.g (by decide)),a.gl,ab a.o go.t (fun k hk=>by obtain⟨_,cs,hb⟩:=aI a.o k hk;exact d.far hb (by decide)),ab a.i go.t (fun k hk=>by obtain⟨_,cs,hb⟩:=aI a.i k hk;exact d.far hb (by decide))⟩
theorem cw.ty (a:cw w W S0 R G h f fk fl bd z t sz):ey W (fun j=>j=G\/z.ownBlock=some j) [49,3]:=fun j hj=>by
 rcases hj with rfl|hj
 ·exact⟨_,_,by decide,a.g⟩
 ·obtain⟨_,cs,hb⟩:=aI a.i j hj
  exact⟨_,_,by decide,hb⟩
theorem cw.gath (a:cw w W S0 R G h f fk fl bd z t sz) {bd':ByteArray} {z':Value} {sz':List Int} (q:iK W W1 G w.heap.size z h f fk fl bd' z' t sz'):cw w W1 S0 R G h f fk fl bd' z' t sz':=
 ⟨a.b.trans (q.t.below (fun k _ hk=>by
  rcases hk with rfl|hk
  ·exact a.gl
  ·exact(aI a.i k hk).1) a.b.size),a.s.touch q.t (a.ty.not a.s (by decide)),q.k,a.gl,ab a.o q.t (a.ty.own a.o (by decide)),q.s⟩
theorem cw.ofG (a:cw w W S0 R G h f fk fl bd z t sz):ey W (fun j=>j=G) [49]:=fun j e=>⟨_,_,by decide,e▸a.g⟩
theorem cw.frame (a:cw w W S0 R G h f fk fl bd z t sz) (x y:Int):cw w ((W.setCell ⟨G,6,none⟩ (.int .i64 x)).setCell ⟨G,7,none⟩ (.int .i64 y)) S0 R G h f x y bd z t sz:=by
 have T:aa (fun j=>j=G) W ((W.setCell ⟨G,6,none⟩ (.int .i64 x)).setCell ⟨G,7,none⟩ (.int .i64 y)):=((aa.refl (fun j=>j=G) W).setCell (p:=⟨G,6,none⟩) rfl _).setCell (p:=⟨G,7,none⟩) rfl _;exact⟨(a.b.setCell (p:=⟨G,6,none⟩) a.gl _).setCell (p:=⟨G,7,none⟩) a.gl _,a.s.touch T (a.ofG.not a.s (by decide)),(a.g.set 6 _).set 7 _,a.gl,ab a.o T (a.ofG.own a.o (by decide)),ab a.i T (a.ofG.own a.i (by decide))⟩
theorem cw.trail (a:cw w W S0 R G h f fk fl bd z t sz) (t':Value):cw w (W.setCell ⟨G,10,none⟩ t') S0 R G h f fk fl bd z t' sz:=by
 have T:aa (fun j=>j=G) W (W.setCell ⟨G,10,none⟩ t'):=(aa.refl (fun j=>j=G) W).setCell (p:=⟨G,10,none⟩) rfl _;exact⟨a.b.setCell (p:=⟨G,10,none⟩) a.gl _,a.s.touch T (a.ofG.not a.s (by decide)),a.g.set 10 _,a.gl,ab a.o T (a.ofG.own a.o (by decide)),ab a.i T (a.ofG.own a.i (by decide))⟩
end
theorem g6 (kind a fields c d fold:Int) (h0:0<=a) (h1:a<=65536) (hk:kind=1\/kind=2) (w:World):
 Calls Tryz.prog 42 #[.int .i64 kind,.agg #[.int .i64 a,.int .i64 fields,.int .i64 c,.int .i64 d,.int .i64 fold]] w fun e w'=>∃b g,e=.returned (.pointer (some ⟨b,0,none⟩))/\bH w' b g (b+1) cx cx cx kind a fields c d fold (mt a)/\Below w.heap.size w w'/\w.heap.size<=b/\w.heap.size<=g:=
 (Bj kind a fields c d fold h0 h1 hk w).mono fun _ _ ⟨h1,h2,h3⟩=>⟨_,_,h1,h2,h3,by omega,by omega⟩
theorem fo {W:World} {b g:Nat} {kind a fields c d fold:Int} (h:bH W b g (b+1) cx cx cx kind a fields c d fold (mt a)) (h0:0<=a) (h1:a<=65536) (hfi:-9223372036854775808<=fields/\fields<=9223372036854775807) {mx:Int} (hm:W.cell? ⟨0,0,none⟩=some (.int .i64 mx))
 {X:List UInt8} {P1:fb} {P2:Nat} (hP:cT kind fields fold X (mt a)=(P1,P2)) (S:ByteArray) (hS:S.data.toList=X) (hz:S.size<=1000000):
 Calls Tryz.prog 47 #[.pointer (some ⟨b,0,none⟩),.string S] W fun e w'=>e=.returned (.tuple #[.int .i64 (P2:Int),.int .i64 P1.e])/\(∃vl va vf,bH w' b g (b+1) vl va vf kind a fields c d fold P1)/\aa (fun j=>j=b\/j=g) W w':=by
 have hf:=xC h (Eo h0 h1) hfi hm S hz;rw[hS,hP] at hf;refine hf.mono ?_;rintro e w' ⟨rfl,vl,va,vf,h2,_,t,_,_⟩;refine⟨rfl,⟨vl,va,vf,h2⟩,?_⟩;refine aB (aa.refl _ W) t (fun i _ hi=>?_);rcases hi with rfl|rfl|hi|hi
 ·exact Or.inl rfl
 ·exact Or.inr rfl
 ·cases hi
 ·cases hi
theorem gC {w W W1:World} {b g:Nat} (hB:Below w.heap.size w W) (hb:w.heap.size<=b) (hg:w.heap.size<=g) (t:aa (fun j=>j=b\/j=g) W W1):Below w.heap.size w W1:=
 hB.trans (t.below (fun k _ hk=>by rcases hk with rfl|rfl<;>assumption) hB.size)
theorem fO (x:ByteArray) (n:Nat):(x.extract n x.size).data.toList=x.data.toList.drop n:=by
 have h:=Lib.size_eq x;rw[ByteArray.data_extract,Array.toList_extract,List.extract_eq_take_drop];exact Fh (by rw[ES];omega)
theorem dQ (x:ByteArray) (n:Nat):(x.extract n x.size).size<=x.size:=by
 rw[Gh];omega
end Go.Proofs.YthjbodpeckebiaaGreatDoor
-- MsT
namespace Go.Proofs.YthjbodpeckebiaaGreatDoor
open Go.RowKit
theorem g8 (l:List Pc) (p:Pc):bQ (l++[p])=bQ l+p.t.size:=by unfold bQ;rw[Fo,List.sum_append];simp
theorem eK (s:ar) (e:Int):bQ (s.wrong e).out=bQ s.out:=by
 show bQ (s.out++[_])=_;rw[g8];rfl
theorem oJ (s:ar):bQ s.ends.out=bQ s.out:=by
 show bQ (s.out++[_])=_;rw[g8];rfl
theorem sS (s:ar) (x:List UInt8):bQ (s.some x).1.out<=bQ s.out+(s.some x).2:=by
 show bQ (s.out++[_])<=bQ s.out+(min (x.length:Int) s.left).toNat;rw[g8]
 have:(⟨(x.take (min (x.length:Int) s.left).toNat).toArray⟩:ByteArray).size<=(min (x.length:Int) s.left).toNat:=by
  rw[Lib.size_eq];exact List.length_take_le _ _
 exact Nat.add_le_add_left this _
theorem yN (s:ar) (x:List UInt8):bQ (s.whole x).1.out=bQ s.out:=by
 unfold ar.whole;simp only;split
 ·rfl
 ·exact eK _ _
theorem zy (m:Lm) (s:ar) (x:List UInt8):bQ (au m s x).1.out<=bQ s.out+(au m s x).2:=by
 have hw:=yN s x;unfold au;cases s.md
 case nothing=>exact nR _
 case rest=>
  show bQ (s.out++[_])<=bQ s.out+x.length;rw[g8];have:(⟨x.toArray⟩:ByteArray).size=x.length:=by rw[Lib.size_eq]
  exact Nat.add_le_add_left (Nat.le_of_eq this) _
 case sized=>
  have h:=sS s x;simp only;split
  ·rw[oJ];exact h
  ·exact h
 case data=>
  have h:=sS s x;simp only;split
  ·exact h
  ·exact h
 case cr=>
  simp only;split
  ·exact Fj _ _
  ·rw[eK];exact Fj _ _
 case lf=>
  simp only;split
  ·exact Fj _ _
  ·rw[eK];exact Fj _ _
 case size=>
  simp only;split
  ·show bQ (s.whole x).1.out<=_
   rw[hw];exact Fj _ _
  ·split
   ·rw[eK]
    show bQ (s.whole x).1.out<=_;rw[hw];exact Fj _ _
   split
   ·show bQ (s.whole x).1.out<=_
    rw[hw];exact Fj _ _
   ·show bQ ((s.whole x).1.out++[_])<=_
    rw[g8,hw];exact Fj _ _
 case trailer=>
  simp only;split
  ·show bQ (s.whole x).1.out<=_
   rw[hw];exact Fj _ _
  ·split
   ·show bQ (s.whole x).1.out<=_
    rw[hw];exact Fj _ _
   split
   ·rw[eK]
    show bQ (s.whole x).1.out<=_;rw[hw];exact Fj _ _
   split
   ·rw[eK]
    show bQ (s.whole x).1.out<=_;rw[hw];exact Fj _ _
   ·rw[oJ]
    show bQ (s.whole x).1.out<=_;rw[hw];exact Fj _ _
theorem s8 (m:Lm):∀(f:Nat) (s:ar) (x:List UInt8),bQ (cZ m f s x).1.out<=bQ s.out+(cZ m f s x).2
 | 0,_,_=>nR _
 | f+1,s,x=>by
   rw[cZ];split
   ·exact nR _
   ·have h1:=zy m s x
    have h2:=s8 m f (au m s x).1 (x.drop (au m s x).2);show bQ (cZ m f _ _).1.out<=bQ s.out+((au m s x).2+(cZ m f _ _).2);omega
theorem sn (m:Lm) (k n:Int):(aK m k n).out.length<=1/\bQ (aK m k n).out=0:=by
 have h0:∀s:ar,s.out=[]->(∀e,(s.wrong e).out.length<=1/\bQ (s.wrong e).out=0)/\(s.ends.out.length<=1/\bQ s.ends.out=0):=by
  intro s hs;refine⟨fun e=>⟨?_,?_⟩,?_,?_⟩
  ·show (s.out++[_]).length<=1;rw[hs];exact nR _
  ·rw[eK,hs];rfl
  ·show (s.out++[_]).length<=1;rw[hs];exact nR _
  ·rw[oJ,hs];rfl
 unfold aK;simp only;split
 ·exact(h0 _ rfl).1 1
 split
 ·exact(h0 _ rfl).2
 split
 ·split
  ·exact(h0 _ rfl).2
  ·exact⟨EN _,rfl⟩
 split
 ·exact⟨EN _,rfl⟩
 split
 ·exact⟨EN _,rfl⟩
 ·exact(h0 _ rfl).1 1
theorem iO (s:ar):jJ (bB (bE s)).out=[]/\fP (bB (bE s)).out=[]/\(bB (bE s)).out.length<=1/\bQ (bB (bE s)).out=0:=by
 unfold bB;split
 ·split
  ·exact⟨rfl,rfl,nR _,rfl⟩
  ·exact⟨rfl,rfl,nR _,rfl⟩
 ·exact⟨rfl,rfl,EN _,rfl⟩
theorem Dc (l:List Pc):(jJ l).length<=l.length:=List.length_filterMap_le _ _
theorem xu (a fields c d fold kind len:Int) (w:World):
 Calls Tryz.prog 51 #[.agg #[.int .i64 kind,.int .i64 len],.agg #[.int .i64 a,.int .i64 fields,.int .i64 c,.int .i64 d,.int .i64 fold]] w fun e w'=>∃D V,e=.returned (.pointer (some ⟨D,0,none⟩))/\an w' D w.heap.size ⟨a,fields,c,d,fold⟩ (aK ⟨a,fields,c,d,fold⟩ kind len) V/\Below w.heap.size w w':=zR ⟨a,fields,c,d,fold⟩ kind len w
theorem wu {W:World} {D n0:Nat} {m:Lm} {k n:Int} {V:cU} (h:an W D n0 m (aK m k n) V) (hn:n<=9223372036854775807) (hn0:0<n0) {mx:Int} (hmx:W.cell? ⟨0,0,none⟩=some (.int .i64 mx)) {Y:List UInt8} {F1:ar} {F2:Nat} (hF:cF m (aK m k n) Y=(F1,F2)) (S:ByteArray) (hY:S.data.toList=Y) (hS:S.size<=100000):
 Calls Tryz.prog 38 #[.pointer (some ⟨D,0,none⟩),.string S] W fun e w'=>∃vo V',e=.returned (.tuple #[.int .i64 (F2:Int),vo])/\an w' D n0 m (bE F1) V'/\cB w' n0 vo F1.out/\aS W w' D V V'/\F1.out.length<=300000/\bQ F1.out<=100000/\F1.tr.length<=65536:=by
 have h1:=xo h (kW m k n hn) (by have:=(sn m k n).1;omega) hn0 hmx S hS;have hL:S.data.toList.length=S.size:=(Lib.size_eq S).symm
 have ht:bQ F1.out<=100000:=by
  have e1:(cF m (aK m k n) Y).1=F1:=by rw[hF]
  have t1:=s8 m (Y.length+1) (aK m k n) Y;have t2:=(kA m (Y.length+1) (aK m k n) Y (kW m k n hn)).2;have t3:=(sn m k n).2;rw[<-e1];show bQ (cZ m (Y.length+1) (aK m k n) Y).1.out<=_;rw[hY] at hL;omega
 rw[hY,hF] at h1;exact h1.mono fun _ _ ⟨vo,V',q1,q2,q3,q4,_,q6,q5⟩=>⟨vo,V',q1,q2,q3,q4,q5,ht,q6.tr⟩
theorem ri {W:World} {b g:Nat} {vl va vf:Value} {kind a fields c d fold:Int} {P1:fb} (h:bH W b g (b+1) vl va vf kind a fields c d fold P1) (hl:P1.hd.fs.length<=1000000) {m t r:ByteArray} {k n:Int} {fs:List Fd} (hD:iM P1=⟨m,t,k,n,r,fs⟩):
 Calls Tryz.prog 49 #[.pointer (some ⟨b,0,none⟩)] W fun e w'=>∃f,e=.returned (.agg #[.string m,.string t,.int .i64 k,.int .i64 n,.string r,f])/\ao w' W.heap.size f fs/\Below W.heap.size W w':=by
 have q:=xQ h hl;rw[hD] at q;exact q
theorem qp (s:ar):(bB s).tr=s.tr:=by
 unfold bB;split
 ·split
  ·rfl
  ·rfl
 ·rfl
section
variable {w W:World} {S0:Nat} {R:Array Value} {G:Nat} {h:Hd} {f:Value} {fk fl:Int} {bd:ByteArray} {z t:Value} {sz:List Int}
theorem cw.c0 (a:cw w W S0 R G h f fk fl bd z t sz):W.cell? ⟨G,0,none⟩=some (.string h.m):=a.g.cell 0
theorem cw.c1 (a:cw w W S0 R G h f fk fl bd z t sz):W.cell? ⟨G,1,none⟩=some (.string h.t):=a.g.cell 1
theorem cw.c2 (a:cw w W S0 R G h f fk fl bd z t sz):W.cell? ⟨G,2,none⟩=some (.int .i64 h.k):=a.g.cell 2
theorem cw.c3 (a:cw w W S0 R G h f fk fl bd z t sz):W.cell? ⟨G,3,none⟩=some (.int .i64 h.n):=a.g.cell 3
theorem cw.c4 (a:cw w W S0 R G h f fk fl bd z t sz):W.cell? ⟨G,4,none⟩=some (.string h.r):=a.g.cell 4
theorem cw.c5 (a:cw w W S0 R G h f fk fl bd z t sz):W.cell? ⟨G,5,none⟩=some f:=a.g.cell 5
theorem cw.c6 (a:cw w W S0 R G h f fk fl bd z t sz):W.cell? ⟨G,6,none⟩=some (.int .i64 fk):=a.g.cell 6
theorem cw.c7 (a:cw w W S0 R G h f fk fl bd z t sz):W.cell? ⟨G,7,none⟩=some (.int .i64 fl):=a.g.cell 7
theorem cw.c8 (a:cw w W S0 R G h f fk fl bd z t sz):W.cell? ⟨G,8,none⟩=some (.string bd):=a.g.cell 8
theorem cw.c9 (a:cw w W S0 R G h f fk fl bd z t sz):W.cell? ⟨G,9,none⟩=some z:=a.g.cell 9
theorem cw.c10 (a:cw w W S0 R G h f fk fl bd z t sz):W.cell? ⟨G,10,none⟩=some t:=a.g.cell 10
end
theorem Bi {w W:World} {S0 n:Nat} {R:Array Value} {m t r:ByteArray} {k st:Int} {fs:List Fd} {f:Value} (hB:Below w.heap.size w W) (hs:af W S0 R 67) (hn:w.heap.size<=n) (ho:ao W n f fs):
 cw w (W.alloc (.cells #[.string m,.string t,.int .i64 k,.int .i64 st,.string r,f,.int .i64 0,.int .i64 0,.string ⟨#[]⟩,.slice none 0 0,.slice none 0 0] 49)) S0 R W.heap.size ⟨m,t,k,st,r,fs⟩ f 0 0 ⟨#[]⟩ (.slice none 0 0) (.slice none 0 0) []:=
 ⟨hB.alloc hB.size _,hs.alloc _,af.new _ _ _,hB.size,(ho.lower hn).alloc _,bT.start _ _⟩
end Go.Proofs.YthjbodpeckebiaaGreatDoor
-- MsN
namespace Go.Proofs.YthjbodpeckebiaaGreatDoor
open Go.RowKit
theorem yv (x:ByteArray) (closed:Bool) (a fields c d fold kind:Int) (at_:Nat) (method:ByteArray) (w:World) (ha:a<0\/65536<a):Calls Tryz.prog 30 #[.agg #[.string x,.bool closed,.int .i64 a,.int .i64 fields,.int .i64 c,.int .i64 d,.int .i64 fold,.int .i64 kind],.int .i64 (at_:Int),.string method] w fun o w'=>o=.returned (.iface 74 (.agg #[.int .i64 2,.int .i64 (at_:Int),.int .i64 1]))/\Below w.heap.size w w':=by
 have HN:=lH (uZ kind a fields c d fold (Or.inl ha));have K0:=lH (af.new w #[.string x,.bool closed,.int .i64 a,.int .i64 fields,.int .i64 c,.int .i64 d,.int .i64 fold,.int .i64 kind] 67);have B0:=lH ((EK w.heap.size w).alloc (nR _) (.cells #[.string x,.bool closed,.int .i64 a,.int .i64 fields,.int .i64 c,.int .i64 d,.int .i64 fold,.int .i64 kind] 67));have HB:=lH fx;obtain⟨y0,y1,y2,y3,y4,y5,y6,y7⟩:=lx K0.out 0 1 2 3 4 5 6 7;simp at y0 y1 y2 y3 y4 y5 y6 y7;clear ha;go_enter Tryz.func30,Tryz.ntmps30
 go_wp2_with (first|(go_at_call 42;refine(HN.out _).mono ?_;rintro e1 w1 ⟨rfl,hb⟩;have B1:=lH (B0.out.trans (hb.mono B0.out.size));clear hb)|(go_at_call 46;refine(HB.out _ _ _).mono ?_;rintro eb wb ⟨rfl,hb⟩;have BB:=lH (B1.out.trans (hb.mono B1.out.size));clear hb))
 go_ret;exact⟨rfl,BB.out⟩
theorem uN (x:ByteArray) (closed:Bool) (a fields c d fold kind:Int) (at_:Nat) (method:ByteArray) (w:World) (h0:0<=a) (h1:a<=65536) (hk:kind=1\/kind=2) (hfi:-9223372036854775808<=fields/\fields<=9223372036854775807) {mx:Int} (hm:w.cell? ⟨0,0,none⟩=some (.int .i64 mx)) (hw:0<w.heap.size) (hx:x.size<=100000) (hat:at_<=x.size) {P1:fb} {P2:Nat} (hP:cT kind fields fold (x.data.toList.drop at_) (mt a)=(P1,P2)) (he:P1.e≠0):Calls Tryz.prog 30 #[.agg #[.string x,.bool closed,.int .i64 a,.int .i64 fields,.int .i64 c,.int .i64 d,.int .i64 fold,.int .i64 kind],.int .i64 (at_:Int),.string method] w fun o w'=>o=.returned (.iface 74 (.agg #[.int .i64 2,.int .i64 (at_:Int),.int .i64 P1.e]))/\Below w.heap.size w w':=by
 have K0:=lH (af.new w #[.string x,.bool closed,.int .i64 a,.int .i64 fields,.int .i64 c,.int .i64 d,.int .i64 fold,.int .i64 kind] 67);have B0:=lH ((EK w.heap.size w).alloc (nR _) (.cells #[.string x,.bool closed,.int .i64 a,.int .i64 fields,.int .i64 c,.int .i64 d,.int .i64 fold,.int .i64 kind] 67));have HB:=lH fx;obtain⟨y0,y1,y2,y3,y4,y5,y6,y7⟩:=lx K0.out 0 1 2 3 4 5 6 7;simp at y0 y1 y2 y3 y4 y5 y6 y7;have HL:=lH (And.intro h0 h1);have HF:=lH hfi;have HM:=lH hm;have H0:=lH hw;have HP:=lH hP;have HN:=lH (g6 kind a fields c d fold h0 h1 hk);obtain⟨Y,hY⟩:∃Y,Y=x.extract at_ x.size:=⟨_,rfl⟩;have HY:Hid (Y.data.toList=x.data.toList.drop at_):=by show _=_;rw[hY];exact fO x at_
 have HZ:Hid (Y.size<=1000000):=by show _<=_;rw[hY];have:=dQ x at_;omega
 have hsl:∀W:World,(Instr.slice 9 (.string x) (some (.int .i64 (at_:Int))) none none).run Tryz.prog W=.ok (.string Y) W:=fun W=>by rw[FR W 9 x Tryz.underlying9 .i64 (at_:Int) (by omega) (by omega),EX,hY]
 obtain⟨E,hE⟩:∃E,E=P1.e:=⟨_,rfl⟩;rw[<-hE] at he ⊢;have HE:=lH hE;have qe:(E != 0)=true:=by rw[FP];exact he
 clear h0 h1 hfi hm hw hP hY hx hat;clear hE he;go_enter Tryz.func30,Tryz.ntmps30
 go_wp2_with (first|(go_at_call 42;refine(HN.out _).mono ?_;rintro e1 w1 ⟨b,g,rfl,hpa,hb,qb,qg⟩;have KS1:=lH (K0.out.call hb);have PA1:=lH hpa;have HQ:=lH (And.intro qb qg);have B1:=lH (B0.out.trans (hb.mono B0.out.size));clear hpa hb qb qg;obtain⟨u0,u1,u2,u3,u4,u5,u6,u7⟩:=lx KS1.out 0 1 2 3 4 5 6 7;simp at u0 u1 u2 u3 u4 u5 u6 u7)|(go_at_call 47;refine(fo PA1.out HL.out.1 HL.out.2 HF.out (bI HM.out H0.out B1.out) HP.out _ HY.out HZ.out).mono ?_;rw[<-HE.out];rintro e2 w2 ⟨rfl,⟨vl,va,vf,hpa⟩,ht⟩;have PA2:=lH hpa;have KS2:=lH (KS1.out.touch ht (by have:=HQ.out;simp at this;omega));have B2:=lH (gC B1.out (by have:=HQ.out;simp at this;omega) (by have:=HQ.out;simp at this;omega) ht);clear hpa ht;obtain⟨v0,v1,v2,v3,v4,v5,v6,v7⟩:=lx KS2.out 0 1 2 3 4 5 6 7;simp at v0 v1 v2 v3 v4 v5 v6 v7)|(go_at_call 46;refine(HB.out _ _ _).mono ?_;rintro eb wb ⟨rfl,hb⟩;have BB:=lH (B2.out.trans (hb.mono B2.out.size));clear hb))
 go_ret;exact⟨rfl,BB.out⟩
theorem zF (x:ByteArray) (closed:Bool) (a fields c d fold kind:Int) (at_:Nat) (method:ByteArray) (w:World) (h0:0<=a) (h1:a<=65536) (hk:kind=1\/kind=2) (hfi:-9223372036854775808<=fields/\fields<=9223372036854775807) {mx:Int} (hm:w.cell? ⟨0,0,none⟩=some (.int .i64 mx)) (hw:0<w.heap.size) (hx:x.size<=100000) (hat:at_<=x.size) {P1:fb} {P2:Nat} (hP:cT kind fields fold (x.data.toList.drop at_) (mt a)=(P1,P2)) (he:P1.e=0) (hD:(P1.fin&&P1.e==0)=false) (hG:(!P1.all.isEmpty||P1.fin||P1.ln.within)=false):Calls Tryz.prog 30 #[.agg #[.string x,.bool closed,.int .i64 a,.int .i64 fields,.int .i64 c,.int .i64 d,.int .i64 fold,.int .i64 kind],.int .i64 (at_:Int),.string method] w fun o w'=>o=.returned (.iface 74 (.agg #[.int .i64 0,.int .i64 (at_:Int),.int .i64 0]))/\Below w.heap.size w w':=by
 have K0:=lH (af.new w #[.string x,.bool closed,.int .i64 a,.int .i64 fields,.int .i64 c,.int .i64 d,.int .i64 fold,.int .i64 kind] 67);have B0:=lH ((EK w.heap.size w).alloc (nR _) (.cells #[.string x,.bool closed,.int .i64 a,.int .i64 fields,.int .i64 c,.int .i64 d,.int .i64 fold,.int .i64 kind] 67));have HB:=lH fx;obtain⟨y0,y1,y2,y3,y4,y5,y6,y7⟩:=lx K0.out 0 1 2 3 4 5 6 7;simp at y0 y1 y2 y3 y4 y5 y6 y7;have HL:=lH (And.intro h0 h1);have HF:=lH hfi;have HM:=lH hm;have H0:=lH hw;have HP:=lH hP;have HN:=lH (g6 kind a fields c d fold h0 h1 hk);obtain⟨Y,hY⟩:∃Y,Y=x.extract at_ x.size:=⟨_,rfl⟩;have HY:Hid (Y.data.toList=x.data.toList.drop at_):=by show _=_;rw[hY];exact fO x at_
 have HZ:Hid (Y.size<=1000000):=by show _<=_;rw[hY];have:=dQ x at_;omega
 have hsl:∀W:World,(Instr.slice 9 (.string x) (some (.int .i64 (at_:Int))) none none).run Tryz.prog W=.ok (.string Y) W:=fun W=>by rw[FR W 9 x Tryz.underlying9 .i64 (at_:Int) (by omega) (by omega),EX,hY]
 have HD:Hid (∀(W:World) (b g:Nat) (vl va vf:Value),bH W b g (b+1) vl va vf kind a fields c d fold P1->Calls Tryz.prog 48 #[.pointer (some ⟨b,0,none⟩)] W fun e w'=>e=.returned (.bool false)/\W=w'):=fun W b g vl va vf h=>by
  have q:=fq h;rw[hD] at q;exact q
 have HG:Hid (∀(W:World) (b g:Nat) (vl va vf:Value),bH W b g (b+1) vl va vf kind a fields c d fold P1->Calls Tryz.prog 36 #[.pointer (some ⟨b,0,none⟩)] W fun e w'=>e=.returned (.bool false)/\W=w'):=fun W b g vl va vf h=>by
  have q:=jU h;rw[hG] at q;exact q
 have HE:=lH he;clear h0 h1 hfi hm hw hP hY hx hat;clear he hD hG;go_enter Tryz.func30,Tryz.ntmps30
 go_wp2_with (first|(go_at_call 42;refine(HN.out _).mono ?_;rintro e1 w1 ⟨b,g,rfl,hpa,hb,qb,qg⟩;have KS1:=lH (K0.out.call hb);have PA1:=lH hpa;have HQ:=lH (And.intro qb qg);have B1:=lH (B0.out.trans (hb.mono B0.out.size));clear hpa hb qb qg;obtain⟨u0,u1,u2,u3,u4,u5,u6,u7⟩:=lx KS1.out 0 1 2 3 4 5 6 7;simp at u0 u1 u2 u3 u4 u5 u6 u7)|(go_at_call 47;refine(fo PA1.out HL.out.1 HL.out.2 HF.out (bI HM.out H0.out B1.out) HP.out _ HY.out HZ.out).mono ?_;rw[HE.out];rintro e2 w2 ⟨rfl,⟨vl,va,vf,hpa⟩,ht⟩;have PA2:=lH hpa;have KS2:=lH (KS1.out.touch ht (by have:=HQ.out;simp at this;omega));have B2:=lH (gC B1.out (by have:=HQ.out;simp at this;omega) (by have:=HQ.out;simp at this;omega) ht);clear hpa ht;obtain⟨v0,v1,v2,v3,v4,v5,v6,v7⟩:=lx KS2.out 0 1 2 3 4 5 6 7;simp at v0 v1 v2 v3 v4 v5 v6 v7)|(go_at_call 48;refine(HD.out _ _ _ _ _ _ PA2.out).mono ?_;rintro _ _ ⟨rfl,rfl⟩)|(go_at_call 36;refine(HG.out _ _ _ _ _ _ PA2.out).mono ?_;rintro _ _ ⟨rfl,rfl⟩))
 go_ret;exact⟨rfl,B2.out⟩
theorem Ag (x:ByteArray) (a fields c d fold kind:Int) (at_:Nat) (method:ByteArray) (w:World) (h0:0<=a) (h1:a<=65536) (hk:kind=1\/kind=2) (hfi:-9223372036854775808<=fields/\fields<=9223372036854775807) {mx:Int} (hm:w.cell? ⟨0,0,none⟩=some (.int .i64 mx)) (hw:0<w.heap.size) (hx:x.size<=100000) (hat:at_<=x.size) {P1:fb} {P2:Nat} (hP:cT kind fields fold (x.data.toList.drop at_) (mt a)=(P1,P2)) (he:P1.e=0) (hD:(P1.fin&&P1.e==0)=false) (hG:(!P1.all.isEmpty||P1.fin||P1.ln.within)=true):Calls Tryz.prog 30 #[.agg #[.string x,.bool true,.int .i64 a,.int .i64 fields,.int .i64 c,.int .i64 d,.int .i64 fold,.int .i64 kind],.int .i64 (at_:Int),.string method] w fun o w'=>o=.returned (.iface 74 (.agg #[.int .i64 2,.int .i64 (at_:Int),.int .i64 19]))/\Below w.heap.size w w':=by
 have K0:=lH (af.new w #[.string x,.bool true,.int .i64 a,.int .i64 fields,.int .i64 c,.int .i64 d,.int .i64 fold,.int .i64 kind] 67);have B0:=lH ((EK w.heap.size w).alloc (nR _) (.cells #[.string x,.bool true,.int .i64 a,.int .i64 fields,.int .i64 c,.int .i64 d,.int .i64 fold,.int .i64 kind] 67));have HB:=lH fx;obtain⟨y0,y1,y2,y3,y4,y5,y6,y7⟩:=lx K0.out 0 1 2 3 4 5 6 7;simp at y0 y1 y2 y3 y4 y5 y6 y7;have HL:=lH (And.intro h0 h1);have HF:=lH hfi;have HM:=lH hm;have H0:=lH hw;have HP:=lH hP;have HN:=lH (g6 kind a fields c d fold h0 h1 hk);obtain⟨Y,hY⟩:∃Y,Y=x.extract at_ x.size:=⟨_,rfl⟩;have HY:Hid (Y.data.toList=x.data.toList.drop at_):=by show _=_;rw[hY];exact fO x at_
 have HZ:Hid (Y.size<=1000000):=by show _<=_;rw[hY];have:=dQ x at_;omega
 have hsl:∀W:World,(Instr.slice 9 (.string x) (some (.int .i64 (at_:Int))) none none).run Tryz.prog W=.ok (.string Y) W:=fun W=>by rw[FR W 9 x Tryz.underlying9 .i64 (at_:Int) (by omega) (by omega),EX,hY]
 have HD:Hid (∀(W:World) (b g:Nat) (vl va vf:Value),bH W b g (b+1) vl va vf kind a fields c d fold P1->Calls Tryz.prog 48 #[.pointer (some ⟨b,0,none⟩)] W fun e w'=>e=.returned (.bool false)/\W=w'):=fun W b g vl va vf h=>by
  have q:=fq h;rw[hD] at q;exact q
 have HG:Hid (∀(W:World) (b g:Nat) (vl va vf:Value),bH W b g (b+1) vl va vf kind a fields c d fold P1->Calls Tryz.prog 36 #[.pointer (some ⟨b,0,none⟩)] W fun e w'=>e=.returned (.bool true)/\W=w'):=fun W b g vl va vf h=>by
  have q:=jU h;rw[hG] at q;exact q
 have HE:=lH he;clear h0 h1 hfi hm hw hP hY hx hat;clear he hD hG;go_enter Tryz.func30,Tryz.ntmps30
 go_wp2_with (first|(go_at_call 42;refine(HN.out _).mono ?_;rintro e1 w1 ⟨b,g,rfl,hpa,hb,qb,qg⟩;have KS1:=lH (K0.out.call hb);have PA1:=lH hpa;have HQ:=lH (And.intro qb qg);have B1:=lH (B0.out.trans (hb.mono B0.out.size));clear hpa hb qb qg;obtain⟨u0,u1,u2,u3,u4,u5,u6,u7⟩:=lx KS1.out 0 1 2 3 4 5 6 7;simp at u0 u1 u2 u3 u4 u5 u6 u7)|(go_at_call 47;refine(fo PA1.out HL.out.1 HL.out.2 HF.out (bI HM.out H0.out B1.out) HP.out _ HY.out HZ.out).mono ?_;rw[HE.out];rintro e2 w2 ⟨rfl,⟨vl,va,vf,hpa⟩,ht⟩;have PA2:=lH hpa;have KS2:=lH (KS1.out.touch ht (by have:=HQ.out;simp at this;omega));have B2:=lH (gC B1.out (by have:=HQ.out;simp at this;omega) (by have:=HQ.out;simp at this;omega) ht);clear hpa ht;obtain⟨v0,v1,v2,v3,v4,v5,v6,v7⟩:=lx KS2.out 0 1 2 3 4 5 6 7;simp at v0 v1 v2 v3 v4 v5 v6 v7)|(go_at_call 48;refine(HD.out _ _ _ _ _ _ PA2.out).mono ?_;rintro _ _ ⟨rfl,rfl⟩)|(go_at_call 36;refine(HG.out _ _ _ _ _ _ PA2.out).mono ?_;rintro _ _ ⟨rfl,rfl⟩)|(go_at_call 46;refine(HB.out _ _ _).mono ?_;rintro eb wb ⟨rfl,hb⟩;have BB:=lH (B2.out.trans (hb.mono B2.out.size));clear hb))
 go_ret;exact⟨rfl,BB.out⟩
theorem yB (x:ByteArray) (a fields c d fold kind:Int) (at_:Nat) (method:ByteArray) (w:World) (h0:0<=a) (h1:a<=65536) (hk:kind=1\/kind=2) (hfi:-9223372036854775808<=fields/\fields<=9223372036854775807) {mx:Int} (hm:w.cell? ⟨0,0,none⟩=some (.int .i64 mx)) (hw:0<w.heap.size) (hx:x.size<=100000) (hat:at_<=x.size) {P1:fb} {P2:Nat} (hP:cT kind fields fold (x.data.toList.drop at_) (mt a)=(P1,P2)) (he:P1.e=0) (hD:(P1.fin&&P1.e==0)=false) (hG:(!P1.all.isEmpty||P1.fin||P1.ln.within)=true):Calls Tryz.prog 30 #[.agg #[.string x,.bool false,.int .i64 a,.int .i64 fields,.int .i64 c,.int .i64 d,.int .i64 fold,.int .i64 kind],.int .i64 (at_:Int),.string method] w fun o w'=>o=.returned (.iface 74 (.agg #[.int .i64 1,.int .i64 (at_:Int),.int .i64 0]))/\Below w.heap.size w w':=by
 have K0:=lH (af.new w #[.string x,.bool false,.int .i64 a,.int .i64 fields,.int .i64 c,.int .i64 d,.int .i64 fold,.int .i64 kind] 67);have B0:=lH ((EK w.heap.size w).alloc (nR _) (.cells #[.string x,.bool false,.int .i64 a,.int .i64 fields,.int .i64 c,.int .i64 d,.int .i64 fold,.int .i64 kind] 67));have HB:=lH fx;obtain⟨y0,y1,y2,y3,y4,y5,y6,y7⟩:=lx K0.out 0 1 2 3 4 5 6 7;simp at y0 y1 y2 y3 y4 y5 y6 y7;have HL:=lH (And.intro h0 h1);have HF:=lH hfi;have HM:=lH hm;have H0:=lH hw;have HP:=lH hP;have HN:=lH (g6 kind a fields c d fold h0 h1 hk);obtain⟨Y,hY⟩:∃Y,Y=x.extract at_ x.size:=⟨_,rfl⟩;have HY:Hid (Y.data.toList=x.data.toList.drop at_):=by show _=_;rw[hY];exact fO x at_
 have HZ:Hid (Y.size<=1000000):=by show _<=_;rw[hY];have:=dQ x at_;omega
 have hsl:∀W:World,(Instr.slice 9 (.string x) (some (.int .i64 (at_:Int))) none none).run Tryz.prog W=.ok (.string Y) W:=fun W=>by rw[FR W 9 x Tryz.underlying9 .i64 (at_:Int) (by omega) (by omega),EX,hY]
 have HD:Hid (∀(W:World) (b g:Nat) (vl va vf:Value),bH W b g (b+1) vl va vf kind a fields c d fold P1->Calls Tryz.prog 48 #[.pointer (some ⟨b,0,none⟩)] W fun e w'=>e=.returned (.bool false)/\W=w'):=fun W b g vl va vf h=>by
  have q:=fq h;rw[hD] at q;exact q
 have HG:Hid (∀(W:World) (b g:Nat) (vl va vf:Value),bH W b g (b+1) vl va vf kind a fields c d fold P1->Calls Tryz.prog 36 #[.pointer (some ⟨b,0,none⟩)] W fun e w'=>e=.returned (.bool true)/\W=w'):=fun W b g vl va vf h=>by
  have q:=jU h;rw[hG] at q;exact q
 have HE:=lH he;clear h0 h1 hfi hm hw hP hY hx hat;clear he hD hG;go_enter Tryz.func30,Tryz.ntmps30
 go_wp2_with (first|(go_at_call 42;refine(HN.out _).mono ?_;rintro e1 w1 ⟨b,g,rfl,hpa,hb,qb,qg⟩;have KS1:=lH (K0.out.call hb);have PA1:=lH hpa;have HQ:=lH (And.intro qb qg);have B1:=lH (B0.out.trans (hb.mono B0.out.size));clear hpa hb qb qg;obtain⟨u0,u1,u2,u3,u4,u5,u6,u7⟩:=lx KS1.out 0 1 2 3 4 5 6 7;simp at u0 u1 u2 u3 u4 u5 u6 u7)|(go_at_call 47;refine(fo PA1.out HL.out.1 HL.out.2 HF.out (bI HM.out H0.out B1.out) HP.out _ HY.out HZ.out).mono ?_;rw[HE.out];rintro e2 w2 ⟨rfl,⟨vl,va,vf,hpa⟩,ht⟩;have PA2:=lH hpa;have KS2:=lH (KS1.out.touch ht (by have:=HQ.out;simp at this;omega));have B2:=lH (gC B1.out (by have:=HQ.out;simp at this;omega) (by have:=HQ.out;simp at this;omega) ht);clear hpa ht;obtain⟨v0,v1,v2,v3,v4,v5,v6,v7⟩:=lx KS2.out 0 1 2 3 4 5 6 7;simp at v0 v1 v2 v3 v4 v5 v6 v7)|(go_at_call 48;refine(HD.out _ _ _ _ _ _ PA2.out).mono ?_;rintro _ _ ⟨rfl,rfl⟩)|(go_at_call 36;refine(HG.out _ _ _ _ _ _ PA2.out).mono ?_;rintro _ _ ⟨rfl,rfl⟩))
 go_ret;exact⟨rfl,B2.out⟩
end Go.Proofs.YthjbodpeckebiaaGreatDoor
-- MsM
namespace Go.Proofs.YthjbodpeckebiaaGreatDoor
open Go.RowKit
theorem s9 {a b c:Nat} (h:a+b=c) (hc:c<=100000):wrap64 ((a:Int)+(b:Int))=(c:Int)/\IntKind.i64.wrap ((a:Int)+(b:Int))=(c:Int):=by
 subst h;refine⟨?_,?_⟩
 ·rw[FY _ ⟨by omega,by omega⟩];simp
 ·rw[IntWalk.i64_in _ (by omega)];simp
theorem vA (x:ByteArray) (closed:Bool) (a fields c d fold kind:Int) (at_:Nat) (method:ByteArray) (w:World) (h0:0<=a) (h1:a<=65536) (hk:kind=1\/kind=2) (hfi:-9223372036854775808<=fields/\fields<=9223372036854775807) {mx:Int} (hm:w.cell? ⟨0,0,none⟩=some (.int .i64 mx)) (hw:0<w.heap.size) (hx:x.size<=100000) (hat:at_<=x.size) {P1:fb} {P2:Nat} (hP:cT kind fields fold (x.data.toList.drop at_) (mt a)=(P1,P2)) (he:P1.e=0) (hD:(P1.fin&&P1.e==0)=true) (hlen:P1.hd.fs.length<=1000000) {Hm Ht Hr:ByteArray} {Hk Hn:Int} {Hfs:List Fd} (hH:iM P1=⟨Hm,Ht,Hk,Hn,Hr,Hfs⟩) (hok:iR Hfs) {fk fl fe:Int} (hfr:cD kind ⟨Hm,Ht,Hk,Hn,Hr,Hfs⟩ method=(fk,fl,fe)) (hfe:fe≠0):Calls Tryz.prog 30 #[.agg #[.string x,.bool closed,.int .i64 a,.int .i64 fields,.int .i64 c,.int .i64 d,.int .i64 fold,.int .i64 kind],.int .i64 (at_:Int),.string method] w fun o w'=>o=.returned (.iface 74 (.agg #[.int .i64 2,.int .i64 (at_:Int),.int .i64 fe]))/\Below w.heap.size w w':=by
 have K0:=lH (af.new w #[.string x,.bool closed,.int .i64 a,.int .i64 fields,.int .i64 c,.int .i64 d,.int .i64 fold,.int .i64 kind] 67);have B0:=lH ((EK w.heap.size w).alloc (nR _) (.cells #[.string x,.bool closed,.int .i64 a,.int .i64 fields,.int .i64 c,.int .i64 d,.int .i64 fold,.int .i64 kind] 67));have HB:=lH fx;obtain⟨y0,y1,y2,y3,y4,y5,y6,y7⟩:=lx K0.out 0 1 2 3 4 5 6 7;simp at y0 y1 y2 y3 y4 y5 y6 y7;have HL:=lH (And.intro h0 h1);have HF:=lH hfi;have HM:=lH hm;have H0:=lH hw;have HP:=lH hP;have HN:=lH (g6 kind a fields c d fold h0 h1 hk);obtain⟨Y,hY⟩:∃Y,Y=x.extract at_ x.size:=⟨_,rfl⟩;have HY:Hid (Y.data.toList=x.data.toList.drop at_):=by show _=_;rw[hY];exact fO x at_
 have HZ:Hid (Y.size<=1000000):=by show _<=_;rw[hY];have:=dQ x at_;omega
 have hsl:∀W:World,(Instr.slice 9 (.string x) (some (.int .i64 (at_:Int))) none none).run Tryz.prog W=.ok (.string Y) W:=fun W=>by rw[FR W 9 x Tryz.underlying9 .i64 (at_:Int) (by omega) (by omega),EX,hY]
 have HD:Hid (∀(W:World) (b g:Nat) (vl va vf:Value),bH W b g (b+1) vl va vf kind a fields c d fold P1->Calls Tryz.prog 48 #[.pointer (some ⟨b,0,none⟩)] W fun e w'=>e=.returned (.bool true)/\W=w'):=fun W b g vl va vf h=>by
  have q:=fq h;rw[hD] at q;exact q
 have HE:=lH he;have HLEN:=lH hlen;have HDH:=lH hH
 have HFM:Hid (∀(W:World) (f:Value),cu W f Hfs->Calls Tryz.prog 50 #[.agg #[.string x,.bool closed,.int .i64 a,.int .i64 fields,.int .i64 c,.int .i64 d,.int .i64 fold,.int .i64 kind],.agg #[.string Hm,.string Ht,.int .i64 Hk,.int .i64 Hn,.string Hr,f],.string method] W fun e w'=>e=.returned (.tuple #[.agg #[.int .i64 fk,.int .i64 fl],.int .i64 fe])/\Below W.heap.size W w'):=fun W f hF=>by
  have q:=ql x closed a fields c d fold kind hk ⟨Hm,Ht,Hk,Hn,Hr,Hfs⟩ f method W hF hok;rw[hfr] at q;exact q
 have qe:(fe != 0)=true:=by rw[FP];exact hfe
 clear h0 h1 hfi hm hw hP hY hx hat;clear he hD hlen hH hok hfr;clear hfe;go_enter Tryz.func30,Tryz.ntmps30
 go_wp2_with (first|(go_at_call 42;refine(HN.out _).mono ?_;rintro e1 w1 ⟨b,g,rfl,hpa,hb,qb,qg⟩;have KS1:=lH (K0.out.call hb);have PA1:=lH hpa;have HQ:=lH (And.intro qb qg);have B1:=lH (B0.out.trans (hb.mono B0.out.size));clear hpa hb qb qg;obtain⟨u0,u1,u2,u3,u4,u5,u6,u7⟩:=lx KS1.out 0 1 2 3 4 5 6 7;simp at u0 u1 u2 u3 u4 u5 u6 u7;clear y0 y1 y2 y3 y4 y5 y6 y7)|(go_at_call 47;refine(fo PA1.out HL.out.1 HL.out.2 HF.out (bI HM.out H0.out B1.out) HP.out _ HY.out HZ.out).mono ?_;rw[HE.out];rintro e2 w2 ⟨rfl,⟨vl,va,vf,hpa⟩,ht⟩;have PA2:=lH hpa;have KS2:=lH (KS1.out.touch ht (by have:=HQ.out;simp at this;omega));have B2:=lH (gC B1.out (by have:=HQ.out;simp at this;omega) (by have:=HQ.out;simp at this;omega) ht);clear hpa ht;obtain⟨v0,v1,v2,v3,v4,v5,v6,v7⟩:=lx KS2.out 0 1 2 3 4 5 6 7;simp at v0 v1 v2 v3 v4 v5 v6 v7;clear u0 u1 u2 u3 u4 u5 u6 u7)|(go_at_call 48;refine(HD.out _ _ _ _ _ _ PA2.out).mono ?_;rintro _ _ ⟨rfl,rfl⟩)|(go_at_call 49;refine(ri PA2.out HLEN.out HDH.out).mono ?_;rintro e3 w3 ⟨f,rfl,hfx,hb⟩;obtain⟨fp,fc,hfv,_⟩:=hfx.flds;subst hfv;have NX4:=lH (Bi (m:=Hm) (t:=Ht) (r:=Hr) (k:=Hk) (st:=Hn) (B2.out.trans (hb.mono B2.out.size)) (KS2.out.call hb) B2.out.size hfx);clear hfx hb;obtain⟨z0,z1,z2,z3,z4,z5,z6,z7⟩:=lx NX4.out.s 0 1 2 3 4 5 6 7;simp at z0 z1 z2 z3 z4 z5 z6 z7;have g0:=NX4.out.c0;have g1:=NX4.out.c1;have g2:=NX4.out.c2;have g3:=NX4.out.c3;have g4:=NX4.out.c4;have g5:=NX4.out.c5;dsimp only at g0 g1 g2 g3 g4;clear v0 v1 v2 v3 v4 v5 v6 v7)|(go_at_call 50;refine(HFM.out _ _ NX4.out.o.flds).mono ?_;rintro e5 w5 ⟨rfl,hb⟩;have NX5:=lH (NX4.out.call hb);have NX6:=lH (NX5.out.frame fk fl);clear hb;obtain⟨p6,p7⟩:=wF NX5.out.g 6 7;have pc6:=NX5.out.c6;have pc7:=NX5.out.c7;obtain⟨q0,q1,q2,q3,q4,q5,q6,q7⟩:=lx NX6.out.s 0 1 2 3 4 5 6 7;simp at q0 q1 q2 q3 q4 q5 q6 q7;have s6:=NX6.out.c6;have s7:=NX6.out.c7;clear z0 z1 z2 z3 z4 z5 z6 z7;clear g0 g1 g2 g3 g4 g5)|(go_at_call 46;refine(HB.out _ _ _).mono ?_;rintro eb wb ⟨rfl,hb⟩;have BB:=lH (NX6.out.b.trans (hb.mono NX6.out.b.size));clear hb))
 go_ret;exact⟨rfl,BB.out⟩
def xi (w:World) (at_ P2 F2:Nat) (Hm Ht:ByteArray) (Hk Hn:Int) (Hr:ByteArray) (Hfs:List Fd) (fk fl:Int) (F1:ar) (er:Int) (ov:Bool) (o:Ending) (w':World):Prop:=
 if er≠0 then o=.returned (.iface 74 (.agg #[.int .i64 2,.int .i64 (at_:Int),.int .i64 er]))/\Below w.heap.size w w'
 else if ov=false then o=.returned (.iface 74 (.agg #[.int .i64 1,.int .i64 (at_:Int),.int .i64 0]))/\Below w.heap.size w w'
 else ∃f z t,o=.returned (.iface 72 (.agg #[.string Hm,.string Ht,.int .i64 Hk,.int .i64 Hn,.string Hr,f,.int .i64 fk,.int .i64 fl,.string (⟨#[]⟩++aw (fP F1.out)),z,t,.int .i64 ((at_+P2+F2:Nat):Int)]))/\Below w.heap.size w w'/\ao w' w.heap.size f Hfs/\bT w' w.heap.size z ([]++jJ F1.out)/\ao w' w.heap.size t F1.tr
theorem zu (x:ByteArray) (closed:Bool) (a fields c d fold kind:Int) (at_:Nat) (method:ByteArray) (w:World) (h0:0<=a) (h1:a<=65536) (hk:kind=1\/kind=2) (hfi:-9223372036854775808<=fields/\fields<=9223372036854775807) {mx:Int} (hm:w.cell? ⟨0,0,none⟩=some (.int .i64 mx)) (hw:0<w.heap.size) (hx:x.size<=100000) (hat:at_<=x.size) {P1:fb} {P2:Nat} (hP:cT kind fields fold (x.data.toList.drop at_) (mt a)=(P1,P2)) (he:P1.e=0) (hD:(P1.fin&&P1.e==0)=true) (hlen:P1.hd.fs.length<=1000000) {Hm Ht Hr:ByteArray} {Hk Hn:Int} {Hfs:List Fd} (hH:iM P1=⟨Hm,Ht,Hk,Hn,Hr,Hfs⟩) (hok:iR Hfs) {fk fl:Int} (hfr:cD kind ⟨Hm,Ht,Hk,Hn,Hr,Hfs⟩ method=(fk,fl,0)) (hfl:fl<=9223372036854775807) {F1:ar} {F2:Nat} (hF:cF ⟨a,fields,c,d,fold⟩ (aK ⟨a,fields,c,d,fold⟩ fk fl) (x.data.toList.drop (at_+P2))=(F1,F2)) (hle:at_+P2<=x.size) {FN:ar} (hFN:FN=(if closed=true then bE (bB (bE F1)) else bE F1)) {er:Int} {ov:Bool} (her:FN.e=er) (hov:er=0->FN.over=ov) (hl2:er=0->ov=true->at_+P2+F2<=x.size):
 Calls Tryz.prog 30 #[.agg #[.string x,.bool closed,.int .i64 a,.int .i64 fields,.int .i64 c,.int .i64 d,.int .i64 fold,.int .i64 kind],.int .i64 (at_:Int),.string method] w (xi w at_ P2 F2 Hm Ht Hk Hn Hr Hfs fk fl F1 er ov):=by
 have K0:=lH (af.new w #[.string x,.bool closed,.int .i64 a,.int .i64 fields,.int .i64 c,.int .i64 d,.int .i64 fold,.int .i64 kind] 67);have B0:=lH ((EK w.heap.size w).alloc (nR _) (.cells #[.string x,.bool closed,.int .i64 a,.int .i64 fields,.int .i64 c,.int .i64 d,.int .i64 fold,.int .i64 kind] 67));have HB:=lH fx;obtain⟨y0,y1,y2,y3,y4,y5,y6,y7⟩:=lx K0.out 0 1 2 3 4 5 6 7;simp at y0 y1 y2 y3 y4 y5 y6 y7;have HL:=lH (And.intro h0 h1);have HF:=lH hfi;have HM:=lH hm;have H0:=lH hw;have HP:=lH hP;have HN:=lH (g6 kind a fields c d fold h0 h1 hk);obtain⟨Y,hY⟩:∃Y,Y=x.extract at_ x.size:=⟨_,rfl⟩;have HY:Hid (Y.data.toList=x.data.toList.drop at_):=by show _=_;rw[hY];exact fO x at_
 have HZ:Hid (Y.size<=1000000):=by show _<=_;rw[hY];have:=dQ x at_;omega
 have hsl:∀W:World,(Instr.slice 9 (.string x) (some (.int .i64 (at_:Int))) none none).run Tryz.prog W=.ok (.string Y) W:=fun W=>by rw[FR W 9 x Tryz.underlying9 .i64 (at_:Int) (by omega) (by omega),EX,hY]
 have HD:Hid (∀(W:World) (b g:Nat) (vl va vf:Value),bH W b g (b+1) vl va vf kind a fields c d fold P1->Calls Tryz.prog 48 #[.pointer (some ⟨b,0,none⟩)] W fun e w'=>e=.returned (.bool true)/\W=w'):=fun W b g vl va vf h=>by
  have q:=fq h;rw[hD] at q;exact q
 have HE:=lH he;have HLEN:=lH hlen;have HDH:=lH hH
 have HFM:Hid (∀(W:World) (f:Value),cu W f Hfs->Calls Tryz.prog 50 #[.agg #[.string x,.bool closed,.int .i64 a,.int .i64 fields,.int .i64 c,.int .i64 d,.int .i64 fold,.int .i64 kind],.agg #[.string Hm,.string Ht,.int .i64 Hk,.int .i64 Hn,.string Hr,f],.string method] W fun e w'=>e=.returned (.tuple #[.agg #[.int .i64 fk,.int .i64 fl],.int .i64 0])/\Below W.heap.size W w'):=fun W f hF=>by
  have q:=ql x closed a fields c d fold kind hk ⟨Hm,Ht,Hk,Hn,Hr,Hfs⟩ f method W hF hok;rw[hfr] at q;exact q
 have HFL:=lH hfl;have HBF:=lH hF;obtain⟨N1,hN1⟩:∃N,N=at_+P2:=⟨_,rfl⟩;obtain⟨Y2,hY2⟩:∃Y,Y=x.extract (at_+P2) x.size:=⟨_,rfl⟩;have HY2:Hid (Y2.data.toList=x.data.toList.drop (at_+P2)):=by show _=_;rw[hY2];exact fO x _
 have HZ2:Hid (Y2.size<=100000):=by show _<=_;rw[hY2];have:=dQ x (at_+P2);omega
 have hsl2:∀W:World,(Instr.slice 9 (.string x) (some (.int .i64 (N1:Int))) none none).run Tryz.prog W=.ok (.string Y2) W:=fun W=>by rw[FR W 9 x Tryz.underlying9 .i64 (N1:Int) (by omega) (by omega),EX,hY2,hN1]
 obtain⟨hw1,hw1'⟩:=s9 hN1.symm (nT (nT (Nat.le_of_eq hN1) hle) hx);obtain⟨B1,hB1⟩:∃B,B=(⟨#[]⟩:ByteArray)++aw (fP F1.out):=⟨_,rfl⟩;obtain⟨S1,hS1⟩:∃S,S=([]:List Int)++jJ F1.out:=⟨_,rfl⟩;have HB1:=lH hB1;have HS1:=lH hS1;have HS3:Hid (S1.length<=F1.out.length):=by show _<=_;rw[hS1];exact Dc _
 have HB3:Hid (B1.size<=bQ F1.out):=by show _<=_;rw[hB1,F7,dn];have:=rH F1.out;have e:(⟨#[]⟩:ByteArray).size=0:=rfl;omega
 have HC:Hid ((bB (bE F1)).out.length<=1/\bQ (bB (bE F1)).out=0):=(iO F1).2.2;have HB2:Hid (B1++aw (fP (bB (bE F1)).out)=B1):=by show _=_;rw[(iO F1).2.1];apply bj;unfold aw;simp
 have HS2:Hid (S1++jJ (bB (bE F1)).out=S1):=by show _=_;rw[(iO F1).1];exact Fp _
 have HER:Hid (∀(W:World) (D:Nat) (V:cU),af W D (fg ⟨a,fields,c,d,fold⟩ FN V) 117->Calls Tryz.prog 53 #[.pointer (some ⟨D,0,none⟩)] W fun e w'=>e=.returned (.int .i64 er)/\W=w'):=fun W D V h=>by
  have q:=BD h;rw[her] at q;exact q
 have HOV:Hid (er=0->∀(W:World) (D:Nat) (V:cU),af W D (fg ⟨a,fields,c,d,fold⟩ FN V) 117->Calls Tryz.prog 54 #[.pointer (some ⟨D,0,none⟩)] W fun e w'=>e=.returned (.bool ov)/\W=w'):=fun h0 W D V h=>by
  have q:=rj h;rw[hov h0] at q;exact q
 have hFt:FN.tr=F1.tr:=by
  rw[hFN];split
  ·exact qp (bE F1)
  ·rfl
 have HTR:Hid (er=0->ov=true->∀(W:World) (D n0:Nat) (V:cU),an W D n0 ⟨a,fields,c,d,fold⟩ FN V->F1.tr.length<=65536->Calls Tryz.prog 55 #[.pointer (some ⟨D,0,none⟩)] W fun e w'=>∃v,e=.returned v/\ao w' W.heap.size v F1.tr/\Below W.heap.size W w'):=fun h0 h1 W D n0 V h ht=>by
  have q:=pq h (by rw[hFt];omega);rw[if_pos ((hov h0).trans h1),hFt] at q;exact q
 obtain⟨N2,hN2⟩:∃N,N=at_+P2+F2:=⟨_,rfl⟩;have HW2:Hid (er=0->ov=true->wrap64 ((N1:Int)+(F2:Int))=(N2:Int)/\IntKind.i64.wrap ((N1:Int)+(F2:Int))=(N2:Int)):=fun h0 h1=>s9 (show N1+F2=N2 by rw[hN1,hN2]) (nT (nT (Nat.le_of_eq hN2) (hl2 h0 h1)) hx)
 have HP9:Hid (∀o w',(if er≠0 then o=.returned (.iface 74 (.agg #[.int .i64 2,.int .i64 (at_:Int),.int .i64 er]))/\Below w.heap.size w w' else if ov=false then o=.returned (.iface 74 (.agg #[.int .i64 1,.int .i64 (at_:Int),.int .i64 0]))/\Below w.heap.size w w'
  else ∃f z t,o=.returned (.iface 72 (.agg #[.string Hm,.string Ht,.int .i64 Hk,.int .i64 Hn,.string Hr,f,.int .i64 fk,.int .i64 fl,.string B1,z,t,.int .i64 (N2:Int)]))/\Below w.heap.size w w'/\ao w' w.heap.size f Hfs/\bT w' w.heap.size z S1/\ao w' w.heap.size t F1.tr)->xi w at_ P2 F2 Hm Ht Hk Hn Hr Hfs fk fl F1 er ov o w'):=by
  show ∀o w',_->_;intro o w' h;unfold xi;rw[<-hB1,<-hS1,<-hN2];exact h
 refine Calls.mono ?_ HP9.out;clear h0 h1 hfi hm hw hP hY hx hat;clear he hD hlen hH hok hfr;clear hfl hF hN1 hY2 hB1 hS1 hle;clear her hov hl2 hN2 HP9 hFt
 have hcs:(er≠0/\(er != 0)=true)\/(er=0/\ov=false)\/(er=0/\ov=true):=by
  by_cases h:er=0
  ·cases ov
   ·exact Or.inr (Or.inl ⟨h,rfl⟩)
   ·exact Or.inr (Or.inr ⟨h,rfl⟩)
  ·exact Or.inl ⟨h,by rw[FP];exact h⟩
 cases closed
 all_goals first|rw[if_neg (show ¬(false=true) by decide)] at hFN|rw[if_pos rfl] at hFN
 all_goals subst hFN
 all_goals rcases hcs with ⟨hnz,qe⟩|⟨rfl,rfl⟩|⟨rfl,rfl⟩
 all_goals first|simp only[if_pos hnz] | simp only[if_neg (show ¬((0:Int)≠0) from fun h=>h rfl)]
 all_goals try simp only[if_pos (show false=false from rfl)]
 all_goals try simp only[if_neg (show ¬(true=false) by decide)]
 all_goals try (replace HOV:=lH (HOV.out rfl))
 all_goals try (replace HTR:=lH (HTR.out rfl rfl))
 all_goals try (obtain⟨hw2,hw2'⟩:=HW2.out rfl rfl)
 all_goals try clear hnz
 all_goals clear HW2
 all_goals go_enter Tryz.func30,Tryz.ntmps30
 all_goals go_wp2_with (first|(go_at_call 42;refine(HN.out _).mono ?_;rintro e1 w1 ⟨b,g,rfl,hpa,hb,qb,qg⟩;have KS1:=lH (K0.out.call hb);have PA1:=lH hpa;have HQ:=lH (And.intro qb qg);have B1:=lH (B0.out.trans (hb.mono B0.out.size));clear hpa hb qb qg;obtain⟨u0,u1,u2,u3,u4,u5,u6,u7⟩:=lx KS1.out 0 1 2 3 4 5 6 7;simp at u0 u1 u2 u3 u4 u5 u6 u7;clear y0 y1 y2 y3 y4 y5 y6 y7)|(go_at_call 47;refine(fo PA1.out HL.out.1 HL.out.2 HF.out (bI HM.out H0.out B1.out) HP.out _ HY.out HZ.out).mono ?_;rw[HE.out];rintro e2 w2 ⟨rfl,⟨vl,va,vf,hpa⟩,ht⟩;have PA2:=lH hpa;have KS2:=lH (KS1.out.touch ht (by have:=HQ.out;simp at this;omega));have B2:=lH (gC B1.out (by have:=HQ.out;simp at this;omega) (by have:=HQ.out;simp at this;omega) ht);clear hpa ht;obtain⟨v0,v1,v2,v3,v4,v5,v6,v7⟩:=lx KS2.out 0 1 2 3 4 5 6 7;simp at v0 v1 v2 v3 v4 v5 v6 v7;clear u0 u1 u2 u3 u4 u5 u6 u7)|(go_at_call 48;refine(HD.out _ _ _ _ _ _ PA2.out).mono ?_;rintro _ _ ⟨rfl,rfl⟩)|(go_at_call 49;refine(ri PA2.out HLEN.out HDH.out).mono ?_;rintro e3 w3 ⟨f,rfl,hfx,hb⟩;obtain⟨fp,fc,hfv,_⟩:=hfx.flds;subst hfv;have NX4:=lH (Bi (m:=Hm) (t:=Ht) (r:=Hr) (k:=Hk) (st:=Hn) (B2.out.trans (hb.mono B2.out.size)) (KS2.out.call hb) B2.out.size hfx);clear hfx hb;obtain⟨z0,z1,z2,z3,z4,z5,z6,z7⟩:=lx NX4.out.s 0 1 2 3 4 5 6 7;simp at z0 z1 z2 z3 z4 z5 z6 z7;have g0:=NX4.out.c0;have g1:=NX4.out.c1;have g2:=NX4.out.c2;have g3:=NX4.out.c3;have g4:=NX4.out.c4;have g5:=NX4.out.c5;dsimp only at g0 g1 g2 g3 g4;clear v0 v1 v2 v3 v4 v5 v6 v7)|(go_at_call 50;refine(HFM.out _ _ NX4.out.o.flds).mono ?_;rintro e5 w5 ⟨rfl,hb⟩;have NX5:=lH (NX4.out.call hb);have NX6:=lH (NX5.out.frame fk fl);clear hb;obtain⟨p6,p7⟩:=wF NX5.out.g 6 7;have pc6:=NX5.out.c6;have pc7:=NX5.out.c7;obtain⟨q0,q1,q2,q3,q4,q5,q6,q7⟩:=lx NX6.out.s 0 1 2 3 4 5 6 7;simp at q0 q1 q2 q3 q4 q5 q6 q7;have s6:=NX6.out.c6;have s7:=NX6.out.c7;clear z0 z1 z2 z3 z4 z5 z6 z7;clear g0 g1 g2 g3 g4 g5)|(go_at_call 51;refine(xu a fields c d fold fk fl _).mono ?_;rintro e7 w7 ⟨D,V,rfl,hd,hb⟩;have N7:=lH (NX6.out.b.size);have NX7:=lH (NX6.out.call hb);have BD7:=lH hd;clear hd hb;obtain⟨r0,r1,r2,r3,r4,r5,r6,r7⟩:=lx NX7.out.s 0 1 2 3 4 5 6 7;simp at r0 r1 r2 r3 r4 r5 r6 r7;clear q0 q1 q2 q3 q4 q5 q6 q7;clear s6 s7;clear p6 p7;clear pc6 pc7)|(go_at_call 38;refine(wu BD7.out HFL.out (FC H0.out N7.out) (bI HM.out H0.out NX7.out.b) HBF.out _ HY2.out HZ2.out).mono ?_;rintro e8 w8 ⟨vo,V8,rfl,hd,hpc,go,hlen,htt,htr⟩;have NX8:=lH (NX7.out.bod BD7.out go N7.out);have BD8:=lH hd;have PC8:=lH hpc;have HLN:=lH (And.intro hlen (And.intro htt htr));clear hd hpc go hlen htt htr;obtain⟨k0,k1,k2,k3,k4,k5,k6,k7⟩:=lx NX8.out.s 0 1 2 3 4 5 6 7;simp at k0 k1 k2 k3 k4 k5 k6 k7;clear r0 r1 r2 r3 r4 r5 r6 r7)|(go_at_call 52;refine(my NX8.out.g NX8.out.i PC8.out NX8.out.b.size (by have:=HLN.out.1;simp;omega) (by have:=HLN.out.2.1;have e:(⟨#[]⟩:ByteArray).size=0:=rfl;omega)).mono ?_;rw[<-HB1.out,<-HS1.out];rintro e9 w9 ⟨rfl,z,hq⟩;have NX9:=lH (NX8.out.gath hq);have BD9:=lH (BD8.out.apart hq.t NX8.out.ty);clear hq PC8;obtain⟨l0,l1,l2,l3,l4,l5,l6,l7⟩:=lx NX9.out.s 0 1 2 3 4 5 6 7;simp at l0 l1 l2 l3 l4 l5 l6 l7;clear k0 k1 k2 k3 k4 k5 k6 k7)|(go_at_call 41;refine(uV BD9.out (EN _)).mono ?_;rintro e10 w10 ⟨vc,V10,rfl,hd,hpc,go,_,_⟩;replace NX9:=lH (NX9.out.bod BD9.out go N7.out);replace BD9:=lH hd;have PC10:=lH hpc;clear hd hpc go l0 l1 l2 l3 l4 l5 l6 l7;obtain⟨m0,m1,m2,m3,m4,m5,m6,m7⟩:=lx NX9.out.s 0 1 2 3 4 5 6 7;simp at m0 m1 m2 m3 m4 m5 m6 m7)|(go_at_call 52;refine(my NX9.out.g NX9.out.i PC10.out NX9.out.b.size (by have:=HLN.out.1;have:=HS3.out;have:=HC.out.1;omega) (by have:=HLN.out.2.1;have:=HB3.out;have:=HC.out.2;omega)).mono ?_;rw[HB2.out,HS2.out];rintro e11 w11 ⟨rfl,z',hq⟩;replace BD9:=lH (BD9.out.apart hq.t NX9.out.ty);replace NX9:=lH (NX9.out.gath hq);clear hq PC10;obtain⟨n0,n1,n2,n3,n4,n5,n6,n7⟩:=lx NX9.out.s 0 1 2 3 4 5 6 7;simp at n0 n1 n2 n3 n4 n5 n6 n7;clear m0 m1 m2 m3 m4 m5 m6 m7)|(go_at_call 53;refine(HER.out _ _ _ BD9.out.k).mono ?_;rintro _ _ ⟨rfl,rfl⟩)|(go_at_call 54;refine(HOV.out _ _ _ BD9.out.k).mono ?_;rintro _ _ ⟨rfl,rfl⟩)|(go_at_call 55;refine(HTR.out _ _ _ _ BD9.out (by have:=HLN.out.2.2;exact this)).mono ?_;rintro e12 w12 ⟨t,rfl,ho,hb⟩;obtain⟨tp,tc,htv,_⟩:=ho.flds;subst htv;have NX12:=lH (NX9.out.call hb);have NX13:=lH (NX12.out.trail (.slice tp F1.tr.length tc));have OT:=lH (ab (ho.lower NX9.out.b.size) ((aa.refl (fun j=>j=_) w12).setCell (p:=⟨_,10,none⟩) rfl (.slice tp F1.tr.length tc)) (NX12.out.ofG.own ho (by decide)));clear ho hb;have x10:=NX12.out.g.froz 10;have xc10:=NX12.out.c10;have y0:=NX13.out.c0;have y1:=NX13.out.c1;have y2:=NX13.out.c2;have y3:=NX13.out.c3;have y4:=NX13.out.c4;have y5:=NX13.out.c5;have y6:=NX13.out.c6;have y7:=NX13.out.c7;have y8:=NX13.out.c8;have y9:=NX13.out.c9;have y10:=NX13.out.c10;dsimp only at y0 y1 y2 y3 y4)|(go_at_call 46;refine(HB.out _ _ _).mono ?_;rintro eb wb ⟨rfl,hb⟩;have BB:=lH (NX9.out.b.trans (hb.mono NX9.out.b.size));clear hb))
 all_goals go_ret
 all_goals first|exact⟨rfl,BB.out⟩|exact⟨rfl,NX9.out.b⟩|exact⟨_,_,_,rfl,NX13.out.b,NX13.out.o,NX13.out.i,OT.out⟩
end Go.Proofs.YthjbodpeckebiaaGreatDoor
-- MsQ
namespace Go.Proofs.YthjbodpeckebiaaGreatDoor
open Go.RowKit
theorem lq (m:Lm) (k n:Int) (closed:Bool) (x:List UInt8):(bk m k n closed x).used=(bD m k n x).used/\(bk m k n closed x).sizes=(bD m k n x).sizes/\(bk m k n closed x).body=(bD m k n x).body:=by
 unfold bk;simp only;split
 ·exact⟨rfl,rfl,rfl⟩
 split
 ·exact⟨rfl,rfl,rfl⟩
 ·exact⟨rfl,rfl,rfl⟩
def rW (w w':World) (at_:Nat) (o:Ending):gI->Prop
 | .tail k e=>o=.returned (.iface 74 (.agg #[.int .i64 k,.int .i64 (at_:Int),.int .i64 e]))
 | .whole M u=>∃f z t,o=.returned (.iface 72 (.agg #[.string M.hd.m,.string M.hd.t,.int .i64 M.hd.k,.int .i64 M.hd.n,.string M.hd.r,f,.int .i64 M.fk,.int .i64 M.fl,.string (aw M.body),z,t,.int .i64 ((at_+u:Nat):Int)]))/\ao w' w.heap.size f M.hd.fs/\bT w' w.heap.size z M.sizes/\ao w' w.heap.size t M.tr
theorem zM (l:List UInt8):(⟨#[]⟩:ByteArray)++aw l=aw l:=by
 apply bj;unfold aw;simp
theorem qR (x:ByteArray) (closed:Bool) (a fields c d fold kind:Int) (at_:Nat) (method:ByteArray) (w:World) (hk:kind=1\/kind=2) (hfi:-9223372036854775808<=fields/\fields<=9223372036854775807) {mx:Int} (hm:w.cell? ⟨0,0,none⟩=some (.int .i64 mx)) (hx:x.size<=100000) (hat:at_<=x.size):
 Calls Tryz.prog 30 #[.agg #[.string x,.bool closed,.int .i64 a,.int .i64 fields,.int .i64 c,.int .i64 d,.int .i64 fold,.int .i64 kind],.int .i64 (at_:Int),.string method] w fun o w'=>rW w w' at_ o (iJ ⟨a,fields,c,d,fold⟩ closed kind method (x.data.toList.drop at_))/\Below w.heap.size w w':=by
 have hw:0<w.heap.size:=ET w _ hm;unfold iJ;dsimp only
 by_cases ha:a<0\/65536<a
 ·rw[if_pos ha]
  exact yv x closed a fields c d fold kind at_ method w ha
 rw[if_neg ha];have h0:0<=a:=by omega
 have h1:a<=65536:=by omega
 obtain⟨⟨P1,P2⟩,hP⟩:∃P,cT kind fields fold (x.data.toList.drop at_) (mt a)=P:=⟨_,rfl⟩;have hp:=mU kind fields fold a (x.data.toList.drop at_);have hsz:=oq kind fields fold a (x.data.toList.drop at_);have hle:=kO kind fields fold (x.data.toList.drop at_) (mt a);rw[hP] at hp hle;obtain⟨p1,p2,p3,p4,p5⟩:=hp;dsimp only at p1 p2 p3 p4 p5 hle
 generalize eG kind fields fold a (x.data.toList.drop at_)=g at p1 p2 p3 p4 p5 hsz ⊢;by_cases he:P1.e=0
 ·rw[if_neg (show ¬g.e≠0 from fun h=>h (p1▸he))]
  cases hf:P1.fin with
  | false=>
    rw[if_pos (show g.fin=false from p2▸hf)];have hD:(P1.fin&&P1.e==0)=false:=by rw[hf];rfl
    cases hb:g.begun with
    | false=>
      rw[if_pos rfl];exact zF x closed a fields c d fold kind at_ method w h0 h1 hk hfi hm hw hx hat hP he hD (p4.trans hb)
    | true=>
      rw[if_neg (by decide)];cases closed with
      | false=>
        rw[if_neg (by decide)];exact yB x a fields c d fold kind at_ method w h0 h1 hk hfi hm hw hx hat hP he hD (p4.trans hb)
      | true=>
        rw[if_pos rfl];exact Ag x a fields c d fold kind at_ method w h0 h1 hk hfi hm hw hx hat hP he hD (p4.trans hb)
  | true=>
    have hgf:g.fin=true:=p2▸hf;rw[if_neg (by rw[hgf];decide)];have hu:g.used.toNat=P2:=by rw[<-p3];simp
    rw[hu];have hD:(P1.fin&&P1.e==0)=true:=by rw[hf,he];rfl
    have hH:iM P1=g.hd:=by unfold iM;rw[if_pos hD];exact p5 hgf
    obtain⟨s1,s2⟩:=hsz hgf;have hX:(x.data.toList.drop at_).length<=x.size:=by rw[ES];have:=Lib.size_eq x;omega
    have hl2:at_+P2<=x.size:=by rw[ES] at hle;have:=Lib.size_eq x;omega
    have hok:iR g.hd.fs:=ut (nT s1 hX) (nT s2 hX) hx;have hlen:P1.hd.fs.length<=1000000:=by rw[p5 hgf];omega
    rw[Fb];generalize g.hd=H at hH hok ⊢;obtain⟨Hm,Ht,Hk,Hn,Hr,Hfs⟩:=H;unfold ue;obtain⟨⟨fk,fl,fe⟩,hfr⟩:∃F,cD kind ⟨Hm,Ht,Hk,Hn,Hr,Hfs⟩ method=F:=⟨_,rfl⟩;have hfl:=(lg kind ⟨Hm,Ht,Hk,Hn,Hr,Hfs⟩ method).2;rw[hfr] at hfl ⊢;dsimp only at hfl hok ⊢
    by_cases hfe:fe=0
    ·subst hfe
     rw[if_neg (show ¬((0:Int)≠0) from fun h=>h rfl)];obtain⟨⟨F1,F2⟩,hF⟩:∃F,cF ⟨a,fields,c,d,fold⟩ (aK ⟨a,fields,c,d,fold⟩ fk fl) (x.data.toList.drop (at_+P2))=F:=⟨_,rfl⟩;have hfl2:fl<=9223372036854775807:=by omega
     have hoe:=(kA ⟨a,fields,c,d,fold⟩ ((x.data.toList.drop (at_+P2)).length+1) (aK ⟨a,fields,c,d,fold⟩ fk fl) (x.data.toList.drop (at_+P2)) (kW _ fk fl hfl2))
     have hoe1:F1.over=true->F1.e=0:=by
      have:=hoe.1.oe;have e:(cZ ⟨a,fields,c,d,fold⟩ ((x.data.toList.drop (at_+P2)).length+1) (aK ⟨a,fields,c,d,fold⟩ fk fl) (x.data.toList.drop (at_+P2)))=(F1,F2):=hF;rw[e] at this;exact this
     have hF2:F2<=(x.data.toList.drop (at_+P2)).length:=by
      have:=hoe.2;have e:(cZ ⟨a,fields,c,d,fold⟩ ((x.data.toList.drop (at_+P2)).length+1) (aK ⟨a,fields,c,d,fold⟩ fk fl) (x.data.toList.drop (at_+P2)))=(F1,F2):=hF;rw[e] at this;exact this
     have hl3:at_+P2+F2<=x.size:=by rw[ES] at hF2;have:=Lib.size_eq x;omega
     have hre:=CE ⟨a,fields,c,d,fold⟩ fk fl closed (x.data.toList.drop (at_+P2)) (by rw[hF];exact hoe1) (vx _ _ _ _);have hop:=mY ⟨a,fields,c,d,fold⟩ fk fl (x.data.toList.drop (at_+P2));have hsm:=lq ⟨a,fields,c,d,fold⟩ fk fl closed (x.data.toList.drop (at_+P2));rw[hF] at hre hop;obtain⟨o1,_,_,_,o5,o6⟩:=hop;obtain⟨m1,m2,m3⟩:=hsm;rw[<-m1] at o1;rw[<-m2] at o5;rw[<-m3] at o6;obtain⟨r1,r2,r3⟩:=hre;dsimp only at o1 o5 o6 r1 r2 r3
     generalize bk ⟨a,fields,c,d,fold⟩ fk fl closed (x.data.toList.drop (at_+P2))=q at o1 o5 o6 r1 r2 r3 ⊢;have e5:[]++jJ F1.out=q.sizes:=o5;have e6:(⟨#[]⟩:ByteArray)++aw (fP F1.out)=aw q.body:=by rw[zM,show fP F1.out=q.body from o6]
     have e1:F2=q.used:=o1
     have hEnd:∀{o:Ending} {w':World},(∃f z t,o=.returned (.iface 72 (.agg #[.string Hm,.string Ht,.int .i64 Hk,.int .i64 Hn,.string Hr,f,.int .i64 fk,.int .i64 fl,.string (⟨#[]⟩++aw (fP F1.out)),z,t,.int .i64 ((at_+P2+F2:Nat):Int)]))/\Below w.heap.size w w'/\ao w' w.heap.size f Hfs/\bT w' w.heap.size z ([]++jJ F1.out)/\ao w' w.heap.size t F1.tr)->F1.tr=q.tr->
      rW w w' at_ o (.whole ⟨⟨Hm,Ht,Hk,Hn,Hr,Hfs⟩,fk,fl,q.body,q.sizes,q.tr⟩ (P2+q.used))/\Below w.heap.size w w':=by
      rintro o w' ⟨f,z,t,g1,g2,g3,g4,g5⟩ htr;rw[e5] at g4;rw[e6,e1,Gg] at g1;rw[htr] at g5;exact⟨⟨f,z,t,g1,g3,g4,g5⟩,g2⟩
     have hfe2:(if closed=true then bE (bB (bE F1)) else bE F1).e=q.err:=by rw[<-r2];cases closed<;>rfl
     have hfo:q.err=0->(if closed=true then bE (bB (bE F1)) else bE F1).over=q.over:=fun _=>by rw[<-r1];cases closed<;>rfl
     have htr:F1.tr=q.tr:=by
      rw[<-r3];cases closed
      ·rfl
      ·exact(qp (bE F1)).symm
     refine(zu x closed a fields c d fold kind at_ method w h0 h1 hk hfi hm hw hx hat hP he hD hlen hH hok hfr hfl2 hF hl2 rfl hfe2 hfo (fun _ _=>hl3)).mono ?_;intro o w' h;unfold xi at h;by_cases hq:q.err=0
     ·rw[if_neg (fun h=>h hq)] at h
      rw[if_neg (show ¬q.err≠0 from fun h=>h hq)];cases hov:q.over with
      | false=>
        rw[hov,if_pos rfl] at h;rw[if_pos rfl];exact h
      | true=>
        rw[hov,if_neg (by decide)] at h;rw[if_neg (by decide)];exact hEnd h htr
     ·rw[if_pos hq] at h
      rw[if_pos hq];exact h
    ·rw[if_pos (show fe≠0 from hfe)]
     exact vA x closed a fields c d fold kind at_ method w h0 h1 hk hfi hm hw hx hat hP he hD hlen hH hok hfr hfe
 ·rw[if_pos (show g.e≠0 from fun h=>he (p1.trans h)),<-p1]
  exact uN x closed a fields c d fold kind at_ method w h0 h1 hk hfi hm hw hx hat hP he
end Go.Proofs.YthjbodpeckebiaaGreatDoor
-- MsR
namespace Go.Proofs.YthjbodpeckebiaaGreatDoor
open Go.RowKit
structure bO where
 f:Value
 z:Value
 t:Value
def dA (q:bG×bO):List Value:=[.string q.1.hd.m,.string q.1.hd.t,.int .i64 q.1.hd.k,.int .i64 q.1.hd.n,.string q.1.hd.r,q.2.f,.int .i64 q.1.fk,.int .i64 q.1.fl,.string (aw q.1.body),q.2.z,q.2.t]
def lk (l:List (bG×bO)):List Value:=l.flatMap dA
theorem sq (a b:List (bG×bO)):lk (a++b)=lk a++lk b:=by unfold lk;rw[List.flatMap_append]
def fH (w:World) (B:Nat) (v:Value) (l:List (bG×bO)):Prop:=w.ownsRow B 49 11 v l.length (lk l)
theorem fH.start (w:World) (B:Nat):fH w B (.slice none 0 0) []:=Fv _ _ _ _
def bJ (w:World) (B:Nat) (q:bG×bO):Prop:=ao w B q.2.f q.1.hd.fs/\bT w B q.2.z q.1.sizes/\ao w B q.2.t q.1.tr
theorem Ar:(Tryz.prog.info? 49).map (fun i=>(i.zero,i.size,i.bytes))=some (some (.agg #[.string ⟨#[]⟩,.string ⟨#[]⟩,.int .i64 0,.int .i64 0,.string ⟨#[]⟩,.slice none 0 0,.int .i64 0,.int .i64 0,.string ⟨#[]⟩,.slice none 0 0,.slice none 0 0]),11,168):=by kernel_rfl
theorem jk {w:World} {B:Nat} {e:TypeId} {size n:Nat} {v:Value} {xs:List Value} (h:w.ownsRow B e size v n xs):v.oneCell'=true:=by
 obtain⟨_,h⟩:=h;rcases h with ⟨rfl,_⟩|⟨g,cap,cur,rfl,_⟩
 ·rfl
 ·rfl
theorem dH {ops:Array Oper} {rest:List Oper} {o:Oper} {a:Act} {Q:Exit->Act->World->Prop} (hgd:o.guard=none) (s x:Operand)
 (ho:o.op=.call { callee:=.builtin .append,args:=#[s,x],argTypes:=#[28,28] }) {w:World} {B B2:Nat} {v:Value} {l:List (bG×bO)} (hs:a.eval s=v) (hown:fH w B v l) (y:bG×bO) (hy:bJ w B2 y)
 {N:Nat} (hx:a.eval x=.slice (some ⟨N,0,none⟩) 1 1) (hN:N=w.heap.size) (hl:l.length<=1000000) (hB:B<=w.heap.size)
 (h:∀p c w1,fH w1 B (.slice p (l.length+1) c) (l++[y])->(w.alloc (.cells (dA y).toArray 49)).grownBy w1 v.ownBlock->Below B w w1->wpList Tryz.prog ops Q rest (a.put o.dst (.slice p (l.length+1) c)) w1):
 wpList Tryz.prog ops Q (o :: rest) a (w.alloc (.cells (dA y).toArray 49)):=by
 subst hN;obtain⟨i0,hi,hz0,hz1,hz2⟩:=info_parts Ar;have hla:fH (w.alloc (.cells (dA y).toArray 49)) B v l:=ab hown ((aa.refl (fun _=>False) w).alloc _) (fun _ _=>id);have hlo:=fun j hj=>aI hla j hj;refine wpList_append_own _ hgd s x 28 ho B 49 i0 _ 11 168 Tryz.underlying28 hi hz0 hz1 hz2 rfl (by decide) v l.length (lk l) hs hla ⟨w.heap.size,0,none⟩ 1 1 (dA y) hx rfl ?c1 ?c2 ?c3 ?c4 ?c5 ?_;case c1=>exact World.news_of_block (cs:=(dA y).toArray) (t:=49) (fr:=(0,0)) (heap_alloc_new w _)
 case c2=>
  intro u hu;have h1:=jk hy.1;have h2:=jk hy.2.1;have h3:=jk hy.2.2;simp[dA] at hu;rcases hu with rfl|rfl|rfl|rfl|rfl|rfl|rfl|rfl|rfl|rfl|rfl;all_goals first|rfl|assumption
 case c3=>unfold maxLen;omega
 case c4=>omega
 case c5=>simp;omega
 intro v' w1 hown1 hg _;obtain⟨p',c',rfl⟩:=aC hown1;refine h p' c' w1 ?_ hg (((EK _ _).alloc hB _).grown hg (by simp;omega) (fun j hj=>by have:=(hlo j hj).1;omega));show w1.ownsRow B 49 11 _ (l++[y]).length (lk (l++[y]));rw[EY,sq];have e:lk [y]=dA y:=by unfold lk;simp
 rw[e];exact hown1
end Go.Proofs.YthjbodpeckebiaaGreatDoor
-- MsS
namespace Go.Proofs.YthjbodpeckebiaaGreatDoor
open Go.RowKit
theorem bJ.call {w w1:World} {B:Nat} {q:bG×bO} (h:bJ w B q) (hb:Below w.heap.size w w1):bJ w1 B q:=⟨h.1.call hb,h.2.1.call hb,h.2.2.call hb⟩
theorem bJ.lower {w:World} {B B':Nat} {q:bG×bO} (h:bJ w B q) (hB:B'<=B):bJ w B' q:=⟨h.1.lower hB,⟨h.2.1.1,by obtain⟨_,h2⟩:=h.2.1;rcases h2 with h2|⟨g,cap,cur,hv,hg,r⟩;exact Or.inl h2;exact Or.inr ⟨g,cap,cur,hv,nT hB hg,r⟩⟩,h.2.2.lower hB⟩
theorem bJ.touch {P:Nat->Prop} {w w1:World} {B:Nat} {q:bG×bO} (h:bJ w B q) (t:aa P w w1) (hP:ey w P [49]):bJ w1 B q:=
 ⟨ab h.1 t (hP.own h.1 (by decide)),ab h.2.1 t (hP.own h.2.1 (by decide)),ab h.2.2 t (hP.own h.2.2 (by decide))⟩
theorem DC (v:Value) (W:World):(Instr.typeAssert (.iface 74 v) 69 72 true).run Tryz.prog W=.ok (.tuple #[.agg #[.string ⟨#[]⟩,.string ⟨#[]⟩,.int .i64 0,.int .i64 0,.string ⟨#[]⟩,.slice none 0 0,.int .i64 0,.int .i64 0,.string ⟨#[]⟩,.slice none 0 0,.slice none 0 0,.int .i64 0],.bool false]) W:=by kernel_rfl
theorem as_t2 (v:Value) (W:World):(Instr.typeAssert (.iface 74 v) 69 74 false).run Tryz.prog W=.ok v W:=by kernel_rfl
theorem DG (v:Value) (W:World):(Instr.typeAssert (.iface 72 v) 69 72 true).run Tryz.prog W=.ok (.tuple #[v,.bool true]) W:=by kernel_rfl
structure gB (w W:World) (R:Array Value) (v:Value) (l:List (bG×bO)):Prop where
 b:Below w.heap.size w W
 s:af W (w.heap.size+2) R 67
 t:af W (w.heap.size+1) #[.int .i64 0,.int .i64 0,.int .i64 0] 31
 o:fH W w.heap.size v l
 i:∀q∈l,bJ W w.heap.size q
theorem gB.call {w W W1:World} {R:Array Value} {v:Value} {l:List (bG×bO)} (h:gB w W R v l) (hb:Below W.heap.size W W1):gB w W1 R v l:=
 ⟨h.b.trans (hb.mono h.b.size),h.s.call hb,h.t.call hb,ab h.o (P:=fun _=>False) (aa.of_below hb) (fun _ _=>id),fun q hq=>(h.i q hq).call hb⟩
theorem gB.more {w W W1:World} {R:Array Value} {v v':Value} {l:List (bG×bO)} (h:gB w W R v l) (y:bG×bO) (hy:bJ W w.heap.size y) (o:fH W1 w.heap.size v' (l++[y])) (t:aa (fun j=>v.ownBlock=some j) W W1):gB w W1 R v' (l++[y]):=by
 have hP:ey W (fun j=>v.ownBlock=some j) [49]:=fun j hj=>by
  obtain⟨_,cs,hb⟩:=aI h.o j hj;exact⟨_,_,by decide,hb⟩
 refine⟨h.b.trans (t.below (fun k _ hk=>(aI h.o k hk).1) h.b.size),h.s.touch t (hP.not h.s (by decide)),h.t.touch t (hP.not h.t (by decide)),o,fun q hq=>?_⟩;rcases List.mem_append.1 hq with hq|hq
 ·exact(h.i q hq).touch t hP
 ·rw[Gw.1 hq];exact hy.touch t hP
theorem gB.push {w W W1:World} {R:Array Value} {v v':Value} {l:List (bG×bO)} (h:gB w W R v l) {O:Obj} (y:bG×bO) (hy:bJ W w.heap.size y) (o:fH W1 w.heap.size v' (l++[y])) (hg:(W.alloc O).grownBy W1 v.ownBlock):gB w W1 R v' (l++[y]):=
 h.more y hy o (aB ((aa.refl (fun j=>v.ownBlock=some j) W).alloc O) (Q:=fun j=>v.ownBlock=some j) ⟨hg.os,hg.tape,hg.output,hg.size,fun k hk hne=>hg.block k hk (fun e=>hne e.symm)⟩ (fun _ _ e=>e))
theorem fJ {fn:Func} {t p:Tmp} {ty:TypeId} (h:fn.results=#[.tmp t,.cell p ty]) (tmps:Array Value) (P:Program) (w:World) (g:Nat) (cs:Array Value)
 (hp:tmps.getD p undef=.pointer (some ⟨g,0,none⟩)) (hl:(loadVar ty ⟨g,0,none⟩).run P w=.ok (.agg cs) w):(results fn tmps).run P w=.ok (.tuple #[tmps.getD t undef,.agg cs]) w:=by
 simp only[Array.getD_eq_getD_getElem?] at hp;simp only[results,h];simp[Sem.run_bind,Result.andThen,hp,asAddr,hl,Sem.run_pure]
theorem jy {w:World} {g:Nat} {t:TypeId} {x0 x1 x2:Value} (h:af w g #[x0,x1,x2] t) (a b c:Value):af (((w.setCell ⟨g,0,none⟩ a).setCell ⟨g,1,none⟩ b).setCell ⟨g,2,none⟩ c) g #[a,b,c] t:=by
 have:=((h.set 0 a).set 1 b).set 2 c;simpa using this
theorem gB.tail {w W:World} {R:Array Value} {v:Value} {l:List (bG×bO)} (h:gB w W R v l) (a b c:Value):fH (((W.setCell ⟨w.heap.size+1,0,none⟩ a).setCell ⟨w.heap.size+1,1,none⟩ b).setCell ⟨w.heap.size+1,2,none⟩ c) w.heap.size v l/\(∀q∈l,bJ (((W.setCell ⟨w.heap.size+1,0,none⟩ a).setCell ⟨w.heap.size+1,1,none⟩ b).setCell ⟨w.heap.size+1,2,none⟩ c) w.heap.size q)/\Below w.heap.size w (((W.setCell ⟨w.heap.size+1,0,none⟩ a).setCell ⟨w.heap.size+1,1,none⟩ b).setCell ⟨w.heap.size+1,2,none⟩ c):=by
 have T:aa (fun j=>j=w.heap.size+1) W (((W.setCell ⟨w.heap.size+1,0,none⟩ a).setCell ⟨w.heap.size+1,1,none⟩ b).setCell ⟨w.heap.size+1,2,none⟩ c):=(((aa.refl (fun j=>j=w.heap.size+1) W).setCell (p:=⟨w.heap.size+1,0,none⟩) rfl _).setCell (p:=⟨w.heap.size+1,1,none⟩) rfl _).setCell (p:=⟨w.heap.size+1,2,none⟩) rfl _;have hP:ey W (fun j=>j=w.heap.size+1) [31]:=fun j e=>⟨_,_,by decide,e▸h.t⟩;refine⟨ab h.o T (hP.own h.o (by decide)),fun q hq=>?_,((h.b.setCell (FV _) _).setCell (FV _) _).setCell (FV _) _⟩;have hi:=h.i q hq;exact⟨ab hi.1 T (hP.own hi.1 (by decide)),ab hi.2.1 T (hP.own hi.2.1 (by decide)),ab hi.2.2 T (hP.own hi.2.2 (by decide))⟩
theorem yG (x:ByteArray) (closed:Bool) (a fields c d fold:Int) (w:World) (hfi:-9223372036854775808<=fields/\fields<=9223372036854775807) {mx:Int} (hm:w.cell? ⟨0,0,none⟩=some (.int .i64 mx)) (hx:x.size<=100000) {R:List bG×(Int×Nat×Int)} (hR:um ⟨a,fields,c,d,fold⟩ closed (x.size+1) x.data.toList 0 []=R):
 Calls Tryz.prog 10 #[.string x,.bool closed,.agg #[.int .i64 a,.int .i64 fields,.int .i64 c,.int .i64 d,.int .i64 fold]] w fun e w'=>∃v l,e=.returned (.tuple #[v,.agg #[.int .i64 R.2.1,.int .i64 (R.2.2.1:Int),.int .i64 R.2.2.2]])/\l.map (·.1)=R.1/\fH w' w.heap.size v l/\(∀q∈l,bJ w' w.heap.size q)/\Below w.heap.size w w':=by
 have hw:0<w.heap.size:=ET w _ hm;have H1:Hid (gB w (((w.alloc (.cells #[.int .i64 a,.int .i64 fields,.int .i64 c,.int .i64 d,.int .i64 fold] 24)).alloc (.cells #[.int .i64 0,.int .i64 0,.int .i64 0] 31)).alloc (.cells #[.string x,.bool closed,.int .i64 a,.int .i64 fields,.int .i64 c,.int .i64 d,.int .i64 fold,.int .i64 1] 67)) #[.string x,.bool closed,.int .i64 a,.int .i64 fields,.int .i64 c,.int .i64 d,.int .i64 fold,.int .i64 1] (.slice none 0 0) []):=⟨((((EK _ _).alloc (nR _) _).alloc (by simp) _).alloc (by simp;omega) _),af.new' (by simp),(af.new' (by simp)).alloc _,fH.start _ _,fun q hq=>by cases hq⟩;have HM:=lH hm;have H0:=lH hw;have HX:=lH hx;have HF:=lH hfi;have HR:=lH hR;clear hm hw hx hfi hR;go_enter Tryz.func10,Tryz.ntmps10
 go_wp2_with fail
 go_loopw [9,10] (fun u9 u10 wr=>∃(v:Value) (l:List (bG×bO)) (at_ f:Nat),u9=v/\u10=.int .i64 (at_:Int)/\at_<=x.size/\x.size - at_+1<=f/\l.length<=at_/\um ⟨a,fields,c,d,fold⟩ closed f (x.data.toList.drop at_) at_ (l.map (·.1))=R/\gB w wr #[.string x,.bool closed,.int .i64 a,.int .i64 fields,.int .i64 c,.int .i64 d,.int .i64 fold,.int .i64 1] v l) (fun _ u10 _=>x.size - (intOf u10).toNat)
 case atStart=>exact⟨_,[],0,x.size+1,rfl,rfl,EN _,by omega,nR _,HR.out,H1.out⟩
 case round=>
  obtain⟨v,l,at_,f,rfl,rfl,hat,hf,hll,hr,hq⟩:=hrel;obtain⟨f,rfl⟩:∃f',f=f'+1:=⟨f - 1,by omega⟩;have HQ:=lH hq;have HAT:=lH hat;have HN:Hid (Calls Tryz.prog 30 #[.agg #[.string x,.bool closed,.int .i64 a,.int .i64 fields,.int .i64 c,.int .i64 d,.int .i64 fold,.int .i64 1],.int .i64 (at_:Int),.string ⟨#[]⟩] wr fun o w'=>rW wr w' at_ o (iJ ⟨a,fields,c,d,fold⟩ closed 1 ⟨#[]⟩ (x.data.toList.drop at_))/\Below wr.heap.size wr w'):=qR x closed a fields c d fold 1 at_ ⟨#[]⟩ wr (Or.inl rfl) HF.out (bI HM.out H0.out HQ.out.b) HX.out HAT.out;obtain⟨y0,y1,y2,y3,y4,y5,y6,y7⟩:=lx HQ.out.s 0 1 2 3 4 5 6 7;simp at y0 y1 y2 y3 y4 y5 y6 y7;rw[um] at hr;clear hq hat;cases ho:iJ ⟨a,fields,c,d,fold⟩ closed 1 ⟨#[]⟩ (x.data.toList.drop at_) with
  | tail k e=>
    rw[ho] at hr HN;have HRR:Hid ((l.map (·.1),(k,at_,e))=R):=hr;clear hr ho hf hll;have t1:=DC;have t2:=as_t2;go_wp2_with (first|(go_at_call 30;refine HN.out.mono ?_;rintro e1 w1 ⟨h1,hb⟩;have h2:e1=_:=h1;subst h2;clear h1;have HQ1:=lH (HQ.out.call hb);clear hb;obtain⟨z0,z1,z2⟩:=uq HQ1.out.t 0 1 2;simp at z0 z1 z2;obtain⟨q0,q1,q2⟩:=vO HQ1.out.t 0 1 2;clear y0 y1 y2 y3 y4 y5 y6 y7))
    have HQ2:=lH (HQ1.out.call (W1:=(w1.alloc (.cells #[.string ⟨#[]⟩,.string ⟨#[]⟩,.int .i64 0,.int .i64 0,.string ⟨#[]⟩,.slice none 0 0,.int .i64 0,.int .i64 0,.string ⟨#[]⟩,.slice none 0 0,.slice none 0 0,.int .i64 0] 72))) ((EK _ _).alloc (nR _) _));have HQ3:Hid (∀n,gB w ((w1.alloc (.cells #[.string ⟨#[]⟩,.string ⟨#[]⟩,.int .i64 0,.int .i64 0,.string ⟨#[]⟩,.slice none 0 0,.int .i64 0,.int .i64 0,.string ⟨#[]⟩,.slice none 0 0,.slice none 0 0,.int .i64 0] 72)).drewN n) #[.string x,.bool closed,.int .i64 a,.int .i64 fields,.int .i64 c,.int .i64 d,.int .i64 fold,.int .i64 1] u9 l):=fun n=>HQ2.out.call ⟨rfl,rfl,rfl,nR _,fun _ _=>rfl⟩;clear z0 z1 z2 q0 q1 q2;refine aE 4 (by kernel_rfl) (by kernel_rfl) ?_;simp only[Ft,FG,Fz,Ff];repeat go_big_quiet_step (fail)
    refine FD ?_;rintro _ ⟨nq,rfl⟩;obtain⟨z0,z1,z2⟩:=uq ((HQ3.out nq).t) 0 1 2;simp at z0 z1 z2;obtain⟨q0,q1,q2⟩:=vO ((HQ3.out nq).t) 0 1 2;go_wp2_with fail
    have hRR:=HRR.out;subst hRR;obtain⟨g1,g2,g3⟩:=(HQ3.out nq).tail (.int .i64 k) (.int .i64 (at_:Int)) (.int .i64 e);exact EW (fJ Tryz.results10 _ _ _ _ _ rfl (E7 _ _ _ _ _ _ _ (jy (HQ3.out nq).t _ _ _) Tryz.underlying31 rfl (by kernel_rfl))) rfl ⟨_,l,rfl,rfl,g1,g2,g3⟩
  | whole M u=>
    rw[ho] at hr HN;obtain⟨⟨Mm,Mt,Mk,Mn,Mr,Mf⟩,Mfk,Mfl,Mb,Ms,Mtr⟩:=M;have t1:=DG;have HLL:=lH hll;obtain⟨u0,u1⟩:=jm ho;have HU:=lH (And.intro u0 u1);have HRR:=lH hr;have HFF:=lH hf;clear hr ho hf hll u0 u1;go_wp2_with (first|(go_at_call 30;refine HN.out.mono ?_;rintro e1 w1 ⟨⟨vf,vz,vt,h1,of1,oi1,ot1⟩,hb⟩;subst h1;obtain⟨fp,fc,hfv,_⟩:=of1.flds;subst hfv;obtain⟨zp,zc,hzv⟩:=oi1.shape;subst hzv;obtain⟨tp,tc,htv,_⟩:=ot1.flds;subst htv;have HQ1:=lH (HQ.out.call hb);have HY1:Hid (bJ w1 wr.heap.size (⟨⟨Mm,Mt,Mk,Mn,Mr,Mf⟩,Mfk,Mfl,Mb,Ms,Mtr⟩,⟨_,_,_⟩)):=(show bJ w1 wr.heap.size (⟨⟨Mm,Mt,Mk,Mn,Mr,Mf⟩,Mfk,Mfl,Mb,Ms,Mtr⟩,⟨_,_,_⟩) from ⟨of1,oi1,ot1⟩);clear hb of1 oi1 ot1;clear y0 y1 y2 y3 y4 y5 y6 y7)|(at_builtin;refine dH rfl _ _ rfl rfl (HQ1.out.call ((EK w1.heap.size w1).alloc (nR _) _)).o _ (HY1.out.call ((EK w1.heap.size w1).alloc (nR _) _)) rfl (by simp) (by have:=HLL.out;have:=HAT.out;have:=HX.out;omega) (HQ1.out.call ((EK w1.heap.size w1).alloc (nR _) _)).b.size ?_;intro p4 c4 w4 ho4 hg4 hb4;have HQ4:=lH ((HQ1.out.call ((EK w1.heap.size w1).alloc (nR _) _)).push _ ((HY1.out.call ((EK w1.heap.size w1).alloc (nR _) _)).lower HQ.out.b.size) ho4 hg4);clear ho4 hg4 hb4)|(go_at_call 33;refine(gp _ _ _ _ _ _ _ _ _ _ _ _ _).mono ?_;rintro e5 w5 ⟨rfl,hb⟩;have HQ5:=lH (HQ4.out.call hb);clear hb))
    go_roundw
    case rel=>
     have h1:=HU.out.1;have h2:=HU.out.2;have h3:=HFF.out;have h4:=HLL.out;have h5:=HAT.out;rw[ES] at h2;have h6:=Lib.size_eq x;refine⟨_,_,at_+u,f,rfl,by simp,by omega,by omega,by rw[EY];simp only[EQ,F5];omega,?_,HQ5.out⟩;rw[Fo,<-Fb];exact HRR.out
    case measure=>
     have h1:=HU.out.1;have h2:=HU.out.2;have h6:=Lib.size_eq x;rw[ES] at h2;simp[intOf];omega
end Go.Proofs.YthjbodpeckebiaaGreatDoor
-- MsU
namespace Go.Proofs.YthjbodpeckebiaaGreatDoor
open Go.RowKit
theorem gB.apart {w W W1:World} {R:Array Value} {v:Value} {l:List (bG×bO)} (h:gB w W R v l) {O:Obj} (hg:(W.alloc O).grownBy W1 v.ownBlock) {g:Nat} {cs:Array Value} {t:TypeId} (hb:af W g cs t) (ht:t∉[49]):af W1 g cs t:=by
 have hP:ey W (fun j=>v.ownBlock=some j) [49]:=fun j hj=>by
  obtain⟨_,cs,hb⟩:=aI h.o j hj;exact⟨_,_,by decide,hb⟩
 exact hb.touch (aB ((aa.refl (fun j=>v.ownBlock=some j) W).alloc O) (Q:=fun j=>v.ownBlock=some j) ⟨hg.os,hg.tape,hg.output,hg.size,fun k hk hne=>hg.block k hk (fun e=>hne e.symm)⟩ (fun _ _ e=>e)) (hP.not hb ht)
theorem as_t3 (v:Value) (W:World):(Instr.typeAssert (.iface 74 v) 69 74 true).run Tryz.prog W=.ok (.tuple #[v,.bool true]) W:=by kernel_rfl
theorem oW (x:ByteArray) (closed:Bool) (vm:Value) (ms:List ByteArray) (a fields c d fold:Int) (w:World) (hv:cQ w vm ms) (hml:ms.length<=100000) (hfi:-9223372036854775808<=fields/\fields<=9223372036854775807) {mx:Int} (hm:w.cell? ⟨0,0,none⟩=some (.int .i64 mx)) (hx:x.size<=100000) {R:List bG×(Int×Nat×Int)} (hR:ek ⟨a,fields,c,d,fold⟩ closed (x.size+1) ms x.data.toList 0 []=R):
 Calls Tryz.prog 13 #[.string x,.bool closed,vm,.agg #[.int .i64 a,.int .i64 fields,.int .i64 c,.int .i64 d,.int .i64 fold]] w fun e w'=>∃v l,e=.returned (.tuple #[v,.agg #[.int .i64 R.2.1,.int .i64 (R.2.2.1:Int),.int .i64 R.2.2.2]])/\l.map (·.1)=R.1/\fH w' w.heap.size v l/\(∀q∈l,bJ w' w.heap.size q)/\Below w.heap.size w w':=by
 have hw:0<w.heap.size:=ET w _ hm;have H1:Hid (gB w (((w.alloc (.cells #[.int .i64 a,.int .i64 fields,.int .i64 c,.int .i64 d,.int .i64 fold] 24)).alloc (.cells #[.int .i64 0,.int .i64 0,.int .i64 0] 31)).alloc (.cells #[.string x,.bool closed,.int .i64 a,.int .i64 fields,.int .i64 c,.int .i64 d,.int .i64 fold,.int .i64 2] 67)) #[.string x,.bool closed,.int .i64 a,.int .i64 fields,.int .i64 c,.int .i64 d,.int .i64 fold,.int .i64 2] (.slice none 0 0) []):=⟨((((EK _ _).alloc (nR _) _).alloc (by simp) _).alloc (by simp;omega) _),af.new' (by simp),(af.new' (by simp)).alloc _,fH.start _ _,fun q hq=>by cases hq⟩;have HM:=lH hm;have H0:=lH hw;have HX:=lH hx;have HF:=lH hfi;have HR:=lH hR;have HV:=lH hv;have HML:=lH hml;obtain⟨mp,mc,hmv,_⟩:=hv;subst hmv;clear hm hw hx hfi hR hml;go_enter Tryz.func13,Tryz.ntmps13
 go_wp2_with fail
 go_loopw [11,12,13] (fun u11 u12 u13 wr=>∃(v:Value) (l:List (bG×bO)) (at_ i f:Nat),u11=v/\u12=.int .i64 (at_:Int)/\u13=.int .i64 (i:Int)/\at_<=x.size/\i<=ms.length/\x.size - at_+1<=f/\l.length<=at_/\ek ⟨a,fields,c,d,fold⟩ closed f (ms.drop i) (x.data.toList.drop at_) at_ (l.map (·.1))=R/\gB w wr #[.string x,.bool closed,.int .i64 a,.int .i64 fields,.int .i64 c,.int .i64 d,.int .i64 fold,.int .i64 2] v l) (fun _ u12 _ _=>x.size - (intOf u12).toNat)
 case atStart=>exact⟨_,[],0,0,x.size+1,rfl,rfl,rfl,EN _,EN _,by omega,nR _,HR.out,H1.out⟩
 case round=>
  obtain⟨v,l,at_,i,f,rfl,rfl,rfl,hat,hi,hf,hll,hr,hq⟩:=hrel;obtain⟨f,rfl⟩:∃f',f=f'+1:=⟨f - 1,by omega⟩;have HQ:=lH hq;have HAT:=lH hat;have y0:wr.cell? ⟨w.heap.size+1+1,0,none⟩=some (.string x):=HQ.out.s.cell 0;have y1:wr.cell? ⟨w.heap.size+1+1,1,none⟩=some (.bool closed):=HQ.out.s.cell 1;have y2:wr.cell? ⟨w.heap.size+1+1,2,none⟩=some (.int .i64 a):=HQ.out.s.cell 2;have y3:wr.cell? ⟨w.heap.size+1+1,3,none⟩=some (.int .i64 fields):=HQ.out.s.cell 3;have y4:wr.cell? ⟨w.heap.size+1+1,4,none⟩=some (.int .i64 c):=HQ.out.s.cell 4;have y5:wr.cell? ⟨w.heap.size+1+1,5,none⟩=some (.int .i64 d):=HQ.out.s.cell 5;have y6:wr.cell? ⟨w.heap.size+1+1,6,none⟩=some (.int .i64 fold):=HQ.out.s.cell 6;have y7:wr.cell? ⟨w.heap.size+1+1,7,none⟩=some (.int .i64 2):=HQ.out.s.cell 7;have hml:=HML.out;by_cases hlt:i<ms.length
  ·have hd1:decide ((i:Int)<(ms.length:Int))=true:=dT (by omega)
   have hd2:decide (i<ms.length)=true:=dT hlt;obtain⟨tm,htm⟩:∃t,t=ms[i]:=⟨_,rfl⟩;have hdr:ms.drop i=tm :: ms.drop (i+1):=by rw[htm];exact Fa hlt
   obtain⟨p',c',hv',hc⟩:=HV.out.below HQ.out.b;injection hv' with hp1 _ hp3
   subst hp1 hp3;obtain⟨b,off,rfl,hcell⟩:=hc i hlt;rw[<-htm] at hcell;have HQN:Hid (∀n,gB w (wr.drewN n) #[.string x,.bool closed,.int .i64 a,.int .i64 fields,.int .i64 c,.int .i64 d,.int .i64 fold,.int .i64 2] u11 l):=fun n=>HQ.out.call ⟨rfl,rfl,rfl,nR _,fun _ _=>rfl⟩;have HN:Hid (∀n,Calls Tryz.prog 30 #[.agg #[.string x,.bool closed,.int .i64 a,.int .i64 fields,.int .i64 c,.int .i64 d,.int .i64 fold,.int .i64 2],.int .i64 (at_:Int),.string tm] (wr.drewN n) fun o w'=>rW (wr.drewN n) w' at_ o (iJ ⟨a,fields,c,d,fold⟩ closed 2 tm (x.data.toList.drop at_))/\Below (wr.drewN n).heap.size (wr.drewN n) w'):=fun n=>qR x closed a fields c d fold 2 at_ tm (wr.drewN n) (Or.inr rfl) HF.out (bI HM.out H0.out (HQN.out n).b) HX.out HAT.out;rw[hdr,ek] at hr;have HDR:=lH hdr;have HLT:=lH hlt;clear hq hat hc hdr htm hml hi;cases ho:iJ ⟨a,fields,c,d,fold⟩ closed 2 tm (x.data.toList.drop at_) with
   | tail k e=>
     rw[ho] at HN;try simp only at hr
     rw[ho] at hr;have HRR:Hid ((l.map (·.1),(k,at_,e))=R):=hr;clear hr ho hf hll;have t1:=DC;have t3:=as_t3;go_upto_region 6 with fail
     refine aE 6 (by kernel_rfl) (by kernel_rfl) ?_;simp only[Ft,FG,Fz,Ff];go_big_quiet_step (fail)
     repeat go_big_quiet_step (fail)
     refine FD ?_;rintro _ ⟨nq,rfl⟩;go_wp2_with (go_at_call 30;refine(HN.out _).mono ?_;rintro e1 w1 ⟨h1,hb⟩;have h2:e1=_:=h1;subst h2;clear h1;have HQ1:=lH ((HQN.out _).call hb);clear hb;clear y0 y1 y2 y3 y4 y5 y6 y7)
     have HQ2:=lH (HQ1.out.call (W1:=(w1.alloc (.cells #[.int .i64 k,.int .i64 (at_:Int),.int .i64 e] 74))) ((EK _ _).alloc (nR _) _));have HQ3:Hid (∀n,gB w ((w1.alloc (.cells #[.int .i64 k,.int .i64 (at_:Int),.int .i64 e] 74)).drewN n) #[.string x,.bool closed,.int .i64 a,.int .i64 fields,.int .i64 c,.int .i64 d,.int .i64 fold,.int .i64 2] u11 l):=fun n=>HQ2.out.call ⟨rfl,rfl,rfl,nR _,fun _ _=>rfl⟩;refine aE 3 (by kernel_rfl) (by kernel_rfl) ?_;simp only[Ft,FG,Fz,Ff];repeat go_big_quiet_step (fail)
     refine FD ?_;rintro _ ⟨nq2,rfl⟩;obtain⟨z0,z1,z2⟩:=uq ((HQ3.out nq2).t) 0 1 2;simp at z0 z1 z2;obtain⟨q0,q1,q2⟩:=vO ((HQ3.out nq2).t) 0 1 2;go_wp2_with fail
     have hRR:=HRR.out;subst hRR;obtain⟨g1,g2,g3⟩:=(HQ3.out nq2).tail (.int .i64 k) (.int .i64 (at_:Int)) (.int .i64 e);exact EW (fJ Tryz.results13 _ _ _ _ _ rfl (E7 _ _ _ _ _ _ _ (jy (HQ3.out nq2).t _ _ _) Tryz.underlying31 rfl (by kernel_rfl))) rfl ⟨_,l,rfl,rfl,g1,g2,g3⟩
   | whole M u=>
     rw[ho] at HN;rw[ho] at hr;obtain⟨⟨Mm,Mt,Mk,Mn,Mr,Mf⟩,Mfk,Mfl,Mb,Ms,Mtr⟩:=M;have t1:=DG;have HLL:=lH hll;obtain⟨u0,u1⟩:=jm ho;have HU:=lH (And.intro u0 u1);have HRR:=lH hr;have HFF:=lH hf;clear hr ho hf hll u0 u1;have hw9:wrap64 ((i:Int)+1)=((i+1:Nat):Int):=by have:=HML.out;rw[FY _ ⟨by omega,by omega⟩];simp
     by_cases h9:199<Mn
     ·have hd9:decide (Mn<=199)=false:=dF (by omega)
      have qw:decide (199<Mn)=true:=dT h9;have hd7:¬Mn<=199:=by omega
      go_upto_region 6 with fail
      refine aE 6 (by kernel_rfl) (by kernel_rfl) ?_;simp only[Ft,FG,Fz,Ff];repeat go_big_quiet_step (fail)
      refine FD ?_;rintro _ ⟨nq,rfl⟩;go_wp2_with (first|(go_at_call 30;refine(HN.out _).mono ?_;rintro e1 w1 ⟨⟨vf,vz,vt,h1,of1,oi1,ot1⟩,hb⟩;subst h1;obtain⟨fp,fc,hfv,_⟩:=of1.flds;subst hfv;obtain⟨zp,zc,hzv⟩:=oi1.shape;subst hzv;obtain⟨tp,tc,htv,_⟩:=ot1.flds;subst htv;have HQ1:=lH ((HQN.out nq).call hb);have HY1:Hid (bJ w1 (wr.drewN nq).heap.size (⟨⟨Mm,Mt,Mk,Mn,Mr,Mf⟩,Mfk,Mfl,Mb,Ms,Mtr⟩,⟨_,_,_⟩)):=(show bJ w1 (wr.drewN nq).heap.size (⟨⟨Mm,Mt,Mk,Mn,Mr,Mf⟩,Mfk,Mfl,Mb,Ms,Mtr⟩,⟨_,_,_⟩) from ⟨of1,oi1,ot1⟩);clear hb of1 oi1 ot1;clear y0 y1 y2 y3 y4 y5 y6 y7)|(at_builtin;refine dH rfl _ _ rfl rfl (HQ1.out.call ((EK w1.heap.size w1).alloc (nR _) _)).o _ (HY1.out.call ((EK w1.heap.size w1).alloc (nR _) _)) rfl (by simp) (by have:=HLL.out;have:=HAT.out;have:=HX.out;omega) (HQ1.out.call ((EK w1.heap.size w1).alloc (nR _) _)).b.size ?_;intro p4 c4 w4 ho4 hg4 hb4;have HQ4:=lH ((HQ1.out.call ((EK w1.heap.size w1).alloc (nR _) _)).push _ ((HY1.out.call ((EK w1.heap.size w1).alloc (nR _) _)).lower (HQN.out nq).b.size) ho4 hg4);have KW4:=lH ((HQ1.out.call ((EK w1.heap.size w1).alloc (nR _) _)).apart hg4 (af.new w1 #[.string Mm,.string Mt,.int .i64 Mk,.int .i64 Mn,.string Mr,.slice fp Mf.length fc,.int .i64 Mfk,.int .i64 Mfl,.string (aw Mb),.slice zp Ms.length zc,.slice tp Mtr.length tc,.int .i64 ((at_:Int)+(u:Int))] 72) (by decide));clear ho4 hg4 hb4;obtain⟨k0,k1,k2,k3,k4,k5,k6,k7,k8,k9,k10,k11⟩:=bc12 KW4.out 0 1 2 3 4 5 6 7 8 9 10 11;simp at k0 k1 k2 k3 k4 k5 k6 k7 k8 k9 k10 k11)|(go_at_call 33;refine(gp _ _ _ _ _ _ _ _ _ _ _ _ _).mono ?_;rintro e5 w5 ⟨rfl,hb⟩;have HQ5:=lH (HQ4.out.call hb);have KW5:=lH (KW4.out.call hb);clear hb;clear k0 k1 k2 k3 k4 k5 k6 k7 k8 k9 k10 k11;have k3:=KW5.out.cell 3;simp at k3))
      go_roundw
      case rel=>
       have h1:=HU.out.1;have h2:=HU.out.2;have h3:=HFF.out;have h4:=HLL.out;have h5:=HAT.out;have h7:=HLT.out;rw[ES] at h2;have h6:=Lib.size_eq x;refine⟨_,_,at_+u,i+1,f,rfl,by simp,(by first|rfl|rw[hw9]),by omega,by omega,by omega,by rw[EY];simp only[EQ,F5];omega,?_,HQ5.out⟩;have e9:x.data.toList.drop (at_+u)=(x.data.toList.drop at_).drop u:=by rw[Fb]
       rw[Fo,e9];have:=HRR.out;try dsimp only at this
       rw[if_pos h9] at this;exact this
      case measure=>
       have h1:=HU.out.1;have h2:=HU.out.2;have h6:=Lib.size_eq x;rw[ES] at h2;simp[intOf];omega
     ·have hd9:decide (Mn<=199)=true:=dT (by omega)
      have qw:decide (199<Mn)=false:=dF h9;have hd7:Mn<=199:=by omega
      go_upto_region 6 with fail
      refine aE 6 (by kernel_rfl) (by kernel_rfl) ?_;simp only[Ft,FG,Fz,Ff];repeat go_big_quiet_step (fail)
      refine FD ?_;rintro _ ⟨nq,rfl⟩;go_wp2_with (first|(go_at_call 30;refine(HN.out _).mono ?_;rintro e1 w1 ⟨⟨vf,vz,vt,h1,of1,oi1,ot1⟩,hb⟩;subst h1;obtain⟨fp,fc,hfv,_⟩:=of1.flds;subst hfv;obtain⟨zp,zc,hzv⟩:=oi1.shape;subst hzv;obtain⟨tp,tc,htv,_⟩:=ot1.flds;subst htv;have HQ1:=lH ((HQN.out nq).call hb);have HY1:Hid (bJ w1 (wr.drewN nq).heap.size (⟨⟨Mm,Mt,Mk,Mn,Mr,Mf⟩,Mfk,Mfl,Mb,Ms,Mtr⟩,⟨_,_,_⟩)):=(show bJ w1 (wr.drewN nq).heap.size (⟨⟨Mm,Mt,Mk,Mn,Mr,Mf⟩,Mfk,Mfl,Mb,Ms,Mtr⟩,⟨_,_,_⟩) from ⟨of1,oi1,ot1⟩);clear hb of1 oi1 ot1;clear y0 y1 y2 y3 y4 y5 y6 y7)|(at_builtin;refine dH rfl _ _ rfl rfl (HQ1.out.call ((EK w1.heap.size w1).alloc (nR _) _)).o _ (HY1.out.call ((EK w1.heap.size w1).alloc (nR _) _)) rfl (by simp) (by have:=HLL.out;have:=HAT.out;have:=HX.out;omega) (HQ1.out.call ((EK w1.heap.size w1).alloc (nR _) _)).b.size ?_;intro p4 c4 w4 ho4 hg4 hb4;have HQ4:=lH ((HQ1.out.call ((EK w1.heap.size w1).alloc (nR _) _)).push _ ((HY1.out.call ((EK w1.heap.size w1).alloc (nR _) _)).lower (HQN.out nq).b.size) ho4 hg4);have KW4:=lH ((HQ1.out.call ((EK w1.heap.size w1).alloc (nR _) _)).apart hg4 (af.new w1 #[.string Mm,.string Mt,.int .i64 Mk,.int .i64 Mn,.string Mr,.slice fp Mf.length fc,.int .i64 Mfk,.int .i64 Mfl,.string (aw Mb),.slice zp Ms.length zc,.slice tp Mtr.length tc,.int .i64 ((at_:Int)+(u:Int))] 72) (by decide));clear ho4 hg4 hb4;obtain⟨k0,k1,k2,k3,k4,k5,k6,k7,k8,k9,k10,k11⟩:=bc12 KW4.out 0 1 2 3 4 5 6 7 8 9 10 11;simp at k0 k1 k2 k3 k4 k5 k6 k7 k8 k9 k10 k11)|(go_at_call 33;refine(gp _ _ _ _ _ _ _ _ _ _ _ _ _).mono ?_;rintro e5 w5 ⟨rfl,hb⟩;have HQ5:=lH (HQ4.out.call hb);have KW5:=lH (KW4.out.call hb);clear hb;clear k0 k1 k2 k3 k4 k5 k6 k7 k8 k9 k10 k11;have k3:=KW5.out.cell 3;simp at k3))
      go_roundw
      case rel=>
       have h1:=HU.out.1;have h2:=HU.out.2;have h3:=HFF.out;have h4:=HLL.out;have h5:=HAT.out;have h7:=HLT.out;rw[ES] at h2;have h6:=Lib.size_eq x;refine⟨_,_,at_+u,i,f,rfl,by simp,(by first|rfl|rw[hw9]),by omega,by omega,by omega,by rw[EY];simp only[EQ,F5];omega,?_,HQ5.out⟩;have e9:x.data.toList.drop (at_+u)=(x.data.toList.drop at_).drop u:=by rw[Fb]
       rw[Fo,e9,HDR.out];have:=HRR.out;try dsimp only at this
       rw[if_neg (show ¬199<Mn by omega)] at this;exact this
      case measure=>
       have h1:=HU.out.1;have h2:=HU.out.2;have h6:=Lib.size_eq x;rw[ES] at h2;simp[intOf];omega
  ·have hd1:decide ((i:Int)<(ms.length:Int))=false:=dF (by omega)
   have hd2:decide (i<ms.length)=false:=dF hlt;obtain⟨z0,z1,z2⟩:=uq HQ.out.t 0 1 2;simp at z0 z1 z2;obtain⟨q0,q1,q2⟩:=vO HQ.out.t 0 1 2;have hnil:ms.drop i=[]:=E6 (by omega);rw[hnil,ek] at hr;have hxl:=Lib.size_eq x;clear y0 y1 y2 y3 y4 y5 y6 y7;by_cases hend:at_<x.size
   ·have he1:decide (at_<x.size)=true:=dT hend
    have he2:decide ((at_:Int)<(x.size:Int))=true:=dT (by omega)
    have hne:x.data.toList.drop at_≠[]:=by
     intro e;have:=FH List.length e;simp at this;omega
    simp only[if_pos hne] at hr;have HRR:=lH hr;clear hr hq hne hxl hnil hi hf hll;go_wp2_with fail
    have hRR:=HRR.out;subst hRR;obtain⟨g1,g2,g3⟩:=HQ.out.tail (.int .i64 3) (.int .i64 (at_:Int)) (.int .i64 0);exact EW (fJ Tryz.results13 _ _ _ _ _ rfl (E7 _ _ _ _ _ _ _ (jy HQ.out.t _ _ _) Tryz.underlying31 rfl (by kernel_rfl))) rfl ⟨_,l,rfl,rfl,g1,g2,g3⟩
   ·have he1:decide (at_<x.size)=false:=dF hend
    have he2:decide ((at_:Int)<(x.size:Int))=false:=dF (by omega);have hne:x.data.toList.drop at_=[]:=E6 (by omega);simp only[if_neg (show ¬(x.data.toList.drop at_≠[]) from fun h=>h hne)] at hr;have HRR:=lH hr;clear hr hq hne hxl hnil hi hf hll;go_wp2_with fail
    have hRR:=HRR.out;subst hRR;obtain⟨g1,g2,g3⟩:=HQ.out.tail (.int .i64 0) (.int .i64 (at_:Int)) (.int .i64 0);exact EW (fJ Tryz.results13 _ _ _ _ _ rfl (E7 _ _ _ _ _ _ _ (jy HQ.out.t _ _ _) Tryz.underlying31 rfl (by kernel_rfl))) rfl ⟨_,l,rfl,rfl,g1,g2,g3⟩
end Go.Proofs.YthjbodpeckebiaaGreatDoor
-- MsV
namespace Go.Proofs.YthjbodpeckebiaaGreatDoor
open Go.RowKit
structure og (w:World) (q:bG×bO):Prop where
 f:cu w q.2.f q.1.hd.fs
 z:lQ w q.2.z q.1.sizes
 t:cu w q.2.t q.1.tr
theorem og.below {w w':World} {q:bG×bO} (h:og w q) (hb:Below w.heap.size w w'):og w' q:=⟨h.f.below hb,h.z.below hb,h.t.below hb⟩
theorem bJ.rd {w:World} {B:Nat} {q:bG×bO} (h:bJ w B q):og w q:=⟨h.1.flds,h.2.1.nums,h.2.2.flds⟩
def jF (w:World) (v:Value) (l:List (bG×bO)):Prop:=
 ∃p c,v=.slice p l.length c/\(∀i (h:i<l.length),∃b off,p=some ⟨b,off,none⟩/\∀j,j<11->w.cell? ⟨b,off+i*11+j,none⟩=(dA l[i])[j]?)/\∀q∈l,og w q
theorem jF.below {w w':World} {v:Value} {l:List (bG×bO)} (h:jF w v l) (hb:Below w.heap.size w w'):jF w' v l:=by
 obtain⟨p,c,hv,hc,hr⟩:=h;refine⟨p,c,hv,fun i hi=>?_,fun q hq=>(hr q hq).below hb⟩;obtain⟨b,off,hp,h1⟩:=hc i hi;refine⟨b,off,hp,fun j hj=>?_⟩;have h2:=h1 j hj;have h3:(dA l[i])[j]? = some ((dA l[i])[j]'(by simpa [dA] using hj)):=EM _;have hlt:=ET w _ (h2.trans h3);exact((bL hb) b _ hlt).trans h2
theorem jF.nil (w:World) (p:Option Addr) (c:Nat):jF w (.slice p 0 c) []:=⟨p,c,rfl,fun i hi=>absurd hi (FS _),fun q hq=>by cases hq⟩
theorem nS (q:bG×bO):(dA q).length=11:=rfl
theorem xk:∀(l:List (bG×bO)) (i j:Nat) (hi:i<l.length),j<11->(lk l)[i*11+j]? = (dA l[i])[j]?
 | [],i,j,hi,_=>absurd hi (FS _)
 | q :: t,0,j,hi,hj=>by
   have e:lk (q :: t)=dA q++lk t:=rfl;rw[e,List.getElem?_append_left (by rw[nS];omega)];simp
 | q :: t,i+1,j,hi,hj=>by
   have e:lk (q :: t)=dA q++lk t:=rfl;rw[e,List.getElem?_append_right (by rw[nS];omega),nS];have:=xk t i j (by simpa using hi) hj;rw[show (i+1)*11+j - 11=i*11+j by omega,this];simp
theorem fH.msgs {w:World} {B:Nat} {v:Value} {l:List (bG×bO)} (h:fH w B v l) (hi:∀q∈l,bJ w B q):jF w v l:=by
 obtain⟨_,h⟩:=h;rcases h with ⟨rfl,h0⟩|⟨g,cap,cur,rfl,_,hg,h1,h2,h3,h4⟩
 ·have:l=[]:=EU h0
  subst this;exact jF.nil _ _ _
 ·refine⟨_,cap,rfl,fun i hi=>⟨g,0,rfl,fun j hj=>?_⟩,fun q hq=>(hi q hq).rd⟩
  have a:=xk l i j hi hj;rw[<-h4,Gx,if_pos (by omega)] at a;simp only[World.cell?,hg,FQ];simp only[Gq] at a;exact a
def tP (M:bG):Prop:=M.hd.fs.length<=1000000/\M.sizes.length<=1000000/\M.tr.length<=1000000
theorem oF (a:ByteArray):(a.toList==a.toList)=true:=beq_self_eq_true _
theorem zK (M:bG) (V V':bO) (w:World) (h:og w (M,V)) (h':og w (M,V')) (hok:tP M):
 Calls Tryz.prog 32 #[.agg (dA (M,V)).toArray,.agg (dA (M,V')).toArray] w fun e w'=>e=.returned (.bool true)/\Below w.heap.size w w':=by
 obtain⟨⟨Mm,Mt,Mk,Mn,Mr,Mf⟩,Mfk,Mfl,Mb,Ms,Mtr⟩:=M;obtain⟨vf,vz,vt⟩:=V;obtain⟨vf',vz',vt'⟩:=V';obtain⟨o1,o2,o3⟩:=hok;obtain⟨S,hS⟩:∃S,S=aw Mb:=⟨_,rfl⟩;simp only[dA];rw[<-hS]
 have HH:Hid (∀W,Below w.heap.size w W->Calls Tryz.prog 24 #[.agg #[.string Mm,.string Mt,.int .i64 Mk,.int .i64 Mn,.string Mr,vf],.agg #[.string Mm,.string Mt,.int .i64 Mk,.int .i64 Mn,.string Mr,vf']] W fun e w'=>e=.returned (.bool true)/\Below W.heap.size W w'):=by
  show ∀W,_->_;intro W hW;have:=yu Mm Mt Mr Mm Mt Mr Mk Mn Mk Mn vf vf' Mf Mf (oF _) (oF _) (beq_self_eq_true _) (beq_self_eq_true _) (oF _) W (h.f.below hW) (h'.f.below hW) (nT o1 (by decide)) (nT o1 (by decide));simpa using this
 have HI:Hid (∀W,Below w.heap.size w W->Calls Tryz.prog 60 #[vz,vz'] W fun e w'=>e=.returned (.bool true)/\Below W.heap.size W w'):=by
  show ∀W,_->_;intro W hW;have:=xZ vz vz' Ms Ms W (h.z.below hW) (h'.z.below hW) (nT o2 (by decide)) (nT o2 (by decide));simpa using this
 have HT:Hid (∀W,Below w.heap.size w W->Calls Tryz.prog 44 #[vt,vt'] W fun e w'=>e=.returned (.bool true)/\Below W.heap.size W w'):=by
  show ∀W,_->_;intro W hW;have:=pV vt vt' Mtr Mtr W (h.t.below hW) (h'.t.below hW) (nT o3 (by decide)) (nT o3 (by decide));simpa using this
 obtain⟨fp,fc,e1,_⟩:=h.f;obtain⟨zp,zc,e2,_⟩:=h.z;obtain⟨tp,tc,e3,_⟩:=h.t;obtain⟨fp',fc',e4,_⟩:=h'.f;obtain⟨zp',zc',e5,_⟩:=h'.z;obtain⟨tp',tc',e6,_⟩:=h'.t;simp only at e1 e2 e3 e4 e5 e6;subst e1 e2 e3 e4 e5 e6;have K0:Hid (af ((w.alloc (.cells #[.string Mm,.string Mt,.int .i64 Mk,.int .i64 Mn,.string Mr,.slice fp Mf.length fc,.int .i64 Mfk,.int .i64 Mfl,.string S,.slice zp Ms.length zc,.slice tp Mtr.length tc] 49)).alloc (.cells #[.string Mm,.string Mt,.int .i64 Mk,.int .i64 Mn,.string Mr,.slice fp' Mf.length fc',.int .i64 Mfk,.int .i64 Mfl,.string S,.slice zp' Ms.length zc',.slice tp' Mtr.length tc'] 49)) w.heap.size #[.string Mm,.string Mt,.int .i64 Mk,.int .i64 Mn,.string Mr,.slice fp Mf.length fc,.int .i64 Mfk,.int .i64 Mfl,.string S,.slice zp Ms.length zc,.slice tp Mtr.length tc] 49):=(af.new w _ _).alloc _;have K1:Hid (af ((w.alloc (.cells #[.string Mm,.string Mt,.int .i64 Mk,.int .i64 Mn,.string Mr,.slice fp Mf.length fc,.int .i64 Mfk,.int .i64 Mfl,.string S,.slice zp Ms.length zc,.slice tp Mtr.length tc] 49)).alloc (.cells #[.string Mm,.string Mt,.int .i64 Mk,.int .i64 Mn,.string Mr,.slice fp' Mf.length fc',.int .i64 Mfk,.int .i64 Mfl,.string S,.slice zp' Ms.length zc',.slice tp' Mtr.length tc'] 49)) (w.heap.size+1) #[.string Mm,.string Mt,.int .i64 Mk,.int .i64 Mn,.string Mr,.slice fp' Mf.length fc',.int .i64 Mfk,.int .i64 Mfl,.string S,.slice zp' Ms.length zc',.slice tp' Mtr.length tc'] 49):=af.new' (by simp)
 have HB0:Hid (Below w.heap.size w ((w.alloc (.cells #[.string Mm,.string Mt,.int .i64 Mk,.int .i64 Mn,.string Mr,.slice fp Mf.length fc,.int .i64 Mfk,.int .i64 Mfl,.string S,.slice zp Ms.length zc,.slice tp Mtr.length tc] 49)).alloc (.cells #[.string Mm,.string Mt,.int .i64 Mk,.int .i64 Mn,.string Mr,.slice fp' Mf.length fc',.int .i64 Mfk,.int .i64 Mfl,.string S,.slice zp' Ms.length zc',.slice tp' Mtr.length tc'] 49))):=((EK _ _).alloc (nR _) _).alloc (by simp) _;have s1:(Mfk==Mfk)=true:=beq_self_eq_true _;have s2:(Mfl==Mfl)=true:=beq_self_eq_true _;have s3:(S.toList==S.toList)=true:=beq_self_eq_true _;clear h h' o1 o2 o3 hS;go_enter Tryz.func32,Tryz.ntmps32
 go_wp2_with (first|(go_at_call 24;refine(HH.out _ HB0.out).mono ?_;rintro e1 w1 ⟨rfl,hb1⟩;have L0:=lH (K0.out.call hb1);have L1:=lH (K1.out.call hb1);have HB1:=lH (HB0.out.trans (hb1.mono HB0.out.size));clear hb1 HH;obtain⟨a6,a7,a8,a9⟩:=bc4 L0.out 6 7 8 9;obtain⟨b6,b7,b8,b9⟩:=bc4 L1.out 6 7 8 9;simp at a6 a7 a8 a9 b6 b7 b8 b9)|(go_at_call 60;refine(HI.out _ HB1.out).mono ?_;rintro e2 w2 ⟨rfl,hb2⟩;have HB2:=lH (HB1.out.trans (hb2.mono HB1.out.size));have a10:=(L0.out.call hb2).cell 10;have b10:=(L1.out.call hb2).cell 10;clear hb2 HI a6 a7 a8 a9 b6 b7 b8 b9;simp at a10 b10)|(go_at_call 44;refine(HT.out _ HB2.out).mono ?_;rintro e3 w3 ⟨rfl,hb3⟩;have HB3:=lH (HB2.out.trans (hb3.mono HB2.out.size));clear hb3 HT a10 b10))
 go_ret;exact⟨rfl,HB3.out⟩
theorem t4 (v v':Value) (l l':List (bG×bO)) (w:World) (h:jF w v l) (h':jF w v' l') (he:l.map (·.1)=l'.map (·.1)) (hok:∀q∈l,tP q.1) (hz:l.length<=1000000):
 Calls Tryz.prog 12 #[v,v'] w fun e w'=>e=.returned (.bool true)/\Below w.heap.size w w':=by
 have hn:l.length=l'.length:=by have:=FH List.length he;simpa using this
 obtain⟨p,c,rfl,hc,hr⟩:=h;obtain⟨p',c',rfl,hc',hr'⟩:=h';obtain⟨n,hnl⟩:∃n,n=l.length:=⟨_,rfl⟩;have hnl':n=l'.length:=by omega
 have HNl:=lH hnl;have HNl':=lH hnl';rw[<-hnl] at hz ⊢;rw[<-hnl'];have HC:=lH hc;have HC':=lH hc';have HR:=lH hr;have HR':=lH hr';have HE:=lH he;have HK:=lH hok;have hnn:(((n:Nat):Int) != (n:Int))=false:=by simp
 clear hc hc' hn hnl hnl' hr hr' he hok;go_enter Tryz.func12,Tryz.ntmps12
 go_wp2_with fail
 go_loopw [5] (fun i wr=>∃k:Nat,k<=n/\i=.int .i64 k/\Below w.heap.size w wr) (fun i _=>n - (intOf i).toNat)
 case atStart=>exact⟨0,by omega,rfl,EK _ _⟩
 case round=>
  obtain⟨k,hk,rfl,hb⟩:=hrel;have HB:=lH hb;clear hb;by_cases hkn:k<n
  ·have hk1:k<l.length:=by rw[<-HNl.out];exact hkn
   have hk2:k<l'.length:=by rw[<-HNl'.out];exact hkn
   obtain⟨b,off,hp,a⟩:=HC.out k hk1;obtain⟨b',off',hp',a'⟩:=HC'.out k hk2;subst hp hp';have hq:=HR.out l[k] (FT hk1);have hq':=HR'.out l'[k] (FT hk2);have hko:=HK.out l[k] (FT hk1)
   have hee:l[k].1=l'[k].1:=by
    have h1:(l.map (·.1))[k]? = (l'.map (·.1))[k]?:=by rw[HE.out]
    rw[Gk,Gk,EM hk1,EM hk2] at h1;simpa using h1
   obtain⟨q,hqq⟩:∃q,q=l[k]:=⟨_,rfl⟩;obtain⟨q',hqq'⟩:∃q,q=l'[k]:=⟨_,rfl⟩;rw[<-hqq] at a hq hko hee;rw[<-hqq'] at a' hq' hee;clear hqq hqq';obtain⟨M,V⟩:=q;obtain⟨M',V'⟩:=q';have hM:M=M':=hee;subst hM;have HSM:Hid (∀W,Below w.heap.size w W->Calls Tryz.prog 32 #[.agg (dA (M,V)).toArray,.agg (dA (M,V')).toArray] W fun e w'=>e=.returned (.bool true)/\Below W.heap.size W w'):=fun W hW=>zK M V V' W (hq.below hW) (hq'.below hW) hko
   have ha:∀j (hj:j<11),wr.cell? ⟨b,off+k*11+j,none⟩=(dA (M,V))[j]?:=fun j hj=>by
    have h3:(dA (M,V))[j]? = some ((dA (M,V))[j]'(by simpa [dA] using hj)):=EM _;have h4:=(a j hj).trans h3;exact(((bL HB.out) b _ (ET w _ h4)).trans h4).trans h3.symm
   have ha':∀j (hj:j<11),wr.cell? ⟨b',off'+k*11+j,none⟩=(dA (M,V'))[j]?:=fun j hj=>by
    have h3:(dA (M,V'))[j]? = some ((dA (M,V'))[j]'(by simpa [dA] using hj)):=EM _;have h4:=(a' j hj).trans h3;exact(((bL HB.out) b' _ (ET w _ h4)).trans h4).trans h3.symm
   have x0:=ha 0 (by decide);have x1:=ha 1 (by decide);have x2:=ha 2 (by decide);have x3:=ha 3 (by decide);have x4:=ha 4 (by decide);have x5:=ha 5 (by decide);have x6:=ha 6 (by decide);have x7:=ha 7 (by decide);have x8:=ha 8 (by decide);have x9:=ha 9 (by decide);have x10:=ha 10 (by decide);have y0:=ha' 0 (by decide);have y1:=ha' 1 (by decide);have y2:=ha' 2 (by decide);have y3:=ha' 3 (by decide);have y4:=ha' 4 (by decide);have y5:=ha' 5 (by decide);have y6:=ha' 6 (by decide);have y7:=ha' 7 (by decide);have y8:=ha' 8 (by decide);have y9:=ha' 9 (by decide);have y10:=ha' 10 (by decide);obtain⟨⟨Mm,Mt,Mk,Mn,Mr,Mf⟩,Mfk,Mfl,Mb,Ms,Mtr⟩:=M;obtain⟨vf,vz,vt⟩:=V;obtain⟨vf',vz',vt'⟩:=V';obtain⟨fp,fc,e1,_⟩:=hq.f;obtain⟨zp,zc,e2,_⟩:=hq.z;obtain⟨tp,tc,e3,_⟩:=hq.t;obtain⟨fp',fc',e4,_⟩:=hq'.f;obtain⟨zp',zc',e5,_⟩:=hq'.z;obtain⟨tp',tc',e6,_⟩:=hq'.t;simp only at e1 e2 e3 e4 e5 e6;subst e1 e2 e3 e4 e5 e6;simp[dA] at x0 x1 x2 x3 x4 x5 x6 x7 x8 x9 x10 y0 y1 y2 y3 y4 y5 y6 y7 y8 y9 y10;simp only[dA] at HSM;have hk0:(0:Int)<=(k:Int):=by omega
   have hki:(k:Int)<(n:Int):=by omega
   clear a a' hq hq' hko ha ha' hk1 hk2 hnn hee;go_upto_region 6 with fail
   refine aE 8 (by kernel_rfl) (by kernel_rfl) ?_;simp only[Ft,FG,Fz,Ff];repeat go_big_quiet_step (fail)
   refine FD ?_;rintro _ ⟨nq,rfl⟩;have HBN:Hid (Below w.heap.size w (wr.drewN nq)):=eN HB.out nq;go_wp2_with (go_at_call 32;refine(HSM.out _ HBN.out).mono ?_;rintro e1 w1 ⟨rfl,hb1⟩;have HB1:=lH (HBN.out.trans (hb1.mono HBN.out.size));clear hb1)
   go_roundw
   case rel=>exact⟨k+1,hkn,by go_num,HB1.out⟩
   case measure=>simp[intOf];omega
  ·have hki:¬(k:Int)<(n:Int):=by omega
   go_wp2_with fail
   go_ret;exact⟨rfl,HB.out⟩
end Go.Proofs.YthjbodpeckebiaaGreatDoor
-- MsO
namespace Go.Proofs.YthjbodpeckebiaaGreatDoor
open Go.RowKit
theorem sF (m:Lm) (x:List UInt8):(fW m x).sizes=[]:=by
 unfold fW;split<;>rfl
theorem mr (m:Lm):∀(f:Nat) (x:List UInt8),(bW m f x).sizes.length<=x.length
 | 0,x=>EN _
 | f+1,x=>by
   rw[bW];split
   ·exact EN _
   rename_i hx;have hx1:1<=x.length:=List.length_pos_iff.2 hx;split
   ·exact EN _
   rename_i l t hr;split
   ·exact EN _
   split
   ·show (fW m (x.drop (l.length+2))).sizes.length<=_
    rw[sF];exact EN _
   split
   ·exact hx1
   split
   ·exact EN _
   rename_i a z hz;split
   ·exact hx1
   split
   ·exact hx1
   rename_i b y;split
   ·exact hx1
   ·show ((ak l).1 :: (bW m f y).sizes).length<=_
    have h1:=mr m f y;have h2:=FH List.length hz;simp only[ES,EQ] at h2;rw[EQ];omega
theorem pw (m:Lm) (k n:Int) (x:List UInt8):(bD m k n x).sizes.length<=x.length:=by
 unfold bD;split
 ·exact EN _
 split
 ·exact EN _
 split
 ·exact EN _
 split
 ·exact EN _
 ·exact mr m _ x
theorem wy (m:Lm) (k n:Int) (hn:n<=9223372036854775807) (x:List UInt8):(bD m k n x).tr.length<=65536:=by
 have h1:=(mY m k n x).t;have h2:=(kA m (x.length+1) (aK m k n) x (kW m k n hn)).1.tr;rw[<-h1];exact h2
theorem wm (m:Lm) (k n:Int) (closed:Bool) (x:List UInt8):(bk m k n closed x).tr=(bD m k n x).tr:=by
 unfold bk;simp only;split
 ·rfl
 split
 ·rfl
 ·rfl
theorem CG {m:Lm} {closed:Bool} {kind:Int} {method:ByteArray} {x:List UInt8} {M:bG} {u:Nat} (h:iJ m closed kind method x=.whole M u) (hx:x.length<=100000):tP M:=by
 unfold iJ at h;split at h
 ·cases h
 split at h
 ·cases h
 split at h
 ·split at h
  ·cases h
  split at h
  ·cases h
  ·cases h
 rename_i h2;have hf:(eG kind m.fields m.fold m.head x).fin=true:=by simpa using h2
 have hs:=(oq kind m.fields m.fold m.head x hf).2;unfold ue at h;split at h
 ·cases h
 split at h
 ·cases h
 split at h
 ·cases h
 ·injection h with h1 _
  subst h1;have hl:=(lg kind (eG kind m.fields m.fold m.head x).hd method).2;refine⟨nT hs (by omega),?_,?_⟩
  ·show (bk m _ _ closed _).sizes.length<=_
   rw[(lq m _ _ closed _).2.1];refine nT (pw m _ _ _) ?_;rw[ES];omega
  ·show (bk m _ _ closed _).tr.length<=_
   rw[wm];exact nT (wy m _ _ (by omega) _) (by decide)
theorem me (m:Lm) (closed:Bool):∀(f:Nat) (x:List UInt8) (at_:Nat) (acc:List bG),x.length<=100000->(∀M∈acc,tP M)->∀M∈(um m closed f x at_ acc).1,tP M
 | 0,x,at_,acc,_,h=>h
 | f+1,x,at_,acc,hx,h=>by
   rw[um];cases ho:iJ m closed 1 ⟨#[]⟩ x with
   | tail k e=>exact h
   | whole M u=>
     refine me m closed f (x.drop u) (at_+u) (acc++[M]) (by rw[ES];omega) (fun q hq=>?_);rcases List.mem_append.1 hq with hq|hq
     ·exact h q hq
     ·rw[Gw.1 hq];exact CG ho hx
theorem j2 (m:Lm) (closed:Bool):∀(f:Nat) (x:List UInt8) (at_:Nat) (acc:List bG),(um m closed f x at_ acc).1.length<=acc.length+x.length
 | 0,x,at_,acc=>Fj _ _
 | f+1,x,at_,acc=>by
   rw[um];cases ho:iJ m closed 1 ⟨#[]⟩ x with
   | tail k e=>exact Fj _ _
   | whole M u=>
     obtain⟨u0,u1⟩:=jm ho;have:=j2 m closed f (x.drop u) (at_+u) (acc++[M]);rw[EY,ES] at this;simp only[EQ,F5] at this;simp only;omega
theorem jF.take {w:World} {p:Option Addr} {n c c':Nat} {l:List (bG×bO)} (h:jF w (.slice p n c) l) (k:Nat) (hk:k<=l.length):jF w (.slice p k c') (l.take k):=by
 obtain⟨p',c2,hv,hc,hr⟩:=h;injection hv with h1 h2 h3
 subst h1;refine⟨p,c',by rw[Ge,Nat.min_eq_left hk],fun i hi=>?_,fun q hq=>hr q (List.mem_of_mem_take hq)⟩;rw[Ge] at hi;obtain⟨b,off,hp,h4⟩:=hc i (by omega);refine⟨b,off,hp,fun j hj=>?_⟩;rw[h4 j hj,List.getElem_take]
theorem fH.cap {w:World} {B:Nat} {v:Value} {l:List (bG×bO)} (h:fH w B v l):∃p c,v=.slice p l.length c/\l.length<=c/\(p=none->l=[]):=by
 obtain⟨_,h⟩:=h;rcases h with ⟨rfl,h0⟩|⟨g,cap,cur,rfl,_,_,h1,_⟩
 ·have:l=[]:=EU h0
  subst this;exact⟨none,0,rfl,nR _,fun _=>rfl⟩
 ·exact⟨_,cap,rfl,h1,fun e=>by cases e⟩
end Go.Proofs.YthjbodpeckebiaaGreatDoor
-- MsW
namespace Go.Proofs.YthjbodpeckebiaaGreatDoor
open Go.RowKit
def livX:List UInt8:=[71,69,84,32,47,32,72,84,84,80,47,49,46,49,13,10,72,111,115,116,58,32,97,13,10,13,10,71]
def livY:List UInt8:=[72,84,84,80,47,49,46,49,32,50,48,48,32,79,75,13,10,67,111,110,116,101,110,116,45,76,101,110,103,116,104,58,32,49,13,10,13,10,97,98,99]
def DL:Lm:=⟨65536,1000,100,0,0⟩
def xx:List bG×(Int×Nat×Int):=um DL false 29 livX 0 []
def xF:List bG×(Int×Nat×Int):=ek DL true 42 [⟨#[71,69,84]⟩] livY 0 []
theorem uW:xx.2=(1,27,0):=by kernel_rfl
theorem uz:xF.2=(3,39,0):=by kernel_rfl
theorem Es:xx.1.map (·.hd.m)=[⟨#[71,69,84]⟩]:=by kernel_rfl
theorem Ec:xF.1.map (·.body)=[[97]]:=by kernel_rfl
theorem wK {α β γ:Type} {l:List α} {r:List β} {f:α->β} {g:β->γ} {x:γ} (h:l.map f=r) (h2:r.map g=[x]):∃q,l=[q]/\g (f q)=x:=by
 subst h;rw[List.map_map] at h2;cases l with
 | nil=>cases h2
 | cons q t=>
   cases t with
   | nil=>exact⟨q,rfl,by simpa using h2⟩
   | cons q2 t=>simp at h2
theorem CB {w:World} {mx:Int} (hm:w.cell? ⟨0,0,none⟩=some (.int .i64 mx)):
 Calls Tryz.prog 10 #[.string ⟨#[71,69,84,32,47,32,72,84,84,80,47,49,46,49,13,10,72,111,115,116,58,32,97,13,10,13,10,71]⟩,.bool false,.agg #[.int .i64 65536,.int .i64 1000,.int .i64 100,.int .i64 0,.int .i64 0]] w fun e w'=>∃b off c,e=.returned (.tuple #[.slice (some ⟨b,off,none⟩) 1 c,.agg #[.int .i64 1,.int .i64 27,.int .i64 0]])/\w'.cell? ⟨b,off,none⟩=some (.string ⟨#[71,69,84]⟩)/\Below w.heap.size w w':=by
 have h:=yG ⟨#[71,69,84,32,47,32,72,84,84,80,47,49,46,49,13,10,72,111,115,116,58,32,97,13,10,13,10,71]⟩ false 65536 1000 100 0 0 w (by decide) hm (by decide) (R:=xx) rfl;refine h.mono ?_;rintro e w' ⟨v,l,h1,h2,h3,h4,h5⟩;obtain⟨q,rfl,hq⟩:=wK h2 Es;obtain⟨p,c,rfl,hc,_⟩:=h3.msgs h4;obtain⟨b,off,rfl,h6⟩:=hc 0 (by simp);have h7:=h6 0 (by decide);refine⟨b,off,c,?_,?_,h5⟩
 ·rw[h1,show xx.2.1=1 from FH (·.1) uW,show xx.2.2.1=27 from FH (·.2.1) uW,show xx.2.2.2=0 from FH (·.2.2) uW]
  rfl
 ·have h8:(dA q)[0]? = some (.string q.1.hd.m):=rfl
  have h9:=h7.trans h8;rw[hq] at h9;simpa using h9
theorem BG {w:World} {mx:Int} (hm:w.cell? ⟨0,0,none⟩=some (.int .i64 mx)) (vm:Value) (hv:cQ w vm [⟨#[71,69,84]⟩]):
 Calls Tryz.prog 13 #[.string ⟨#[72,84,84,80,47,49,46,49,32,50,48,48,32,79,75,13,10,67,111,110,116,101,110,116,45,76,101,110,103,116,104,58,32,49,13,10,13,10,97,98,99]⟩,.bool true,vm,.agg #[.int .i64 65536,.int .i64 1000,.int .i64 100,.int .i64 0,.int .i64 0]] w fun e w'=>∃b off c,e=.returned (.tuple #[.slice (some ⟨b,off,none⟩) 1 c,.agg #[.int .i64 3,.int .i64 39,.int .i64 0]])/\w'.cell? ⟨b,off+8,none⟩=some (.string ⟨#[97]⟩)/\Below w.heap.size w w':=by
 have h:=oW ⟨#[72,84,84,80,47,49,46,49,32,50,48,48,32,79,75,13,10,67,111,110,116,101,110,116,45,76,101,110,103,116,104,58,32,49,13,10,13,10,97,98,99]⟩ true vm [⟨#[71,69,84]⟩] 65536 1000 100 0 0 w hv (by decide) (by decide) hm (by decide) (R:=xF) rfl;refine h.mono ?_;rintro e w' ⟨v,l,h1,h2,h3,h4,h5⟩;obtain⟨q,rfl,hq⟩:=wK h2 Ec;obtain⟨p,c,rfl,hc,_⟩:=h3.msgs h4;obtain⟨b,off,rfl,h6⟩:=hc 0 (by simp);have h7:=h6 8 (by decide);refine⟨b,off,c,?_,?_,h5⟩
 ·rw[h1,show xF.2.1=3 from FH (·.1) uz,show xF.2.2.1=39 from FH (·.2.1) uz,show xF.2.2.2=0 from FH (·.2.2) uz]
  rfl
 ·have h8:(dA q)[8]? = some (.string (aw q.1.body)):=rfl
  have h9:=h7.trans h8;rw[hq] at h9;rw[Nat.zero_mul,Nat.add_zero] at h9;exact h9
theorem rb (w:World):Calls Tryz.prog 29 #[] w fun e w'=>e=.returned (.agg #[.int .i64 65536,.int .i64 1000,.int .i64 100,.int .i64 0,.int .i64 0])/\Below w.heap.size w w':=by
 go_enter Tryz.func29,Tryz.ntmps29
 go_wp2_with fail
 exact EW (results_cell_row Tryz.results29 _ _ _ _ _ _ _ rfl (heap_alloc_new _ _) Tryz.underlying24 rfl (by kernel_rfl)) rfl ⟨rfl,(EK _ _).alloc (nR _) _⟩
theorem vw {w:World} {mx:Int} (hmx:w.cell? ⟨0,0,none⟩=some (.int .i64 mx)):Calls Tryz.prog 9 #[] w fun e w'=>e=.returned (.bool true)/\Below w.heap.size w w':=by
 have h0:0<w.heap.size:=ET w _ hmx;have HMX:=lH hmx;have H0:=lH h0;clear hmx h0;go_enter Tryz.func9,Tryz.ntmps9
 go_wp2_with fail
 refine(rb _).mono ?_;rintro e1 w1 ⟨rfl,hb1⟩;have HB1:=lH hb1;clear hb1;go_wp2_with fail
 refine(CB (bI HMX.out H0.out HB1.out)).mono ?_;rintro e2 w2 ⟨b2,o2,c2,rfl,k2,hb2⟩;have HB2:=lH (HB1.out.trans (hb2.mono HB1.out.size));clear hb2;go_wp2_with fail
 refine(rb _).mono ?_;rintro e3 w3 ⟨rfl,hb3⟩;have HT3:=lH (((af.new w2 #[.int .i64 1,.int .i64 27,.int .i64 0] 31).alloc (.cells #[.string ⟨#[71,69,84]⟩] 9)).call hb3);have HG3:=lH ((af.new' (w:=w2.alloc (.cells #[.int .i64 1,.int .i64 27,.int .i64 0] 31)) (cs:=#[.string ⟨#[71,69,84]⟩]) (t:=9) (n:=w2.heap.size+1) (by simp)).call hb3);have HB3:=lH ((HB2.out.trans (bal2 w2 (.cells #[.int .i64 1,.int .i64 27,.int .i64 0] 31) (.cells #[.string ⟨#[71,69,84]⟩] 9) |>.mono HB2.out.size)).trans (hb3.mono (by have:=HB2.out.size;simp;omega)));have k3:w3.cell? ⟨b2,o2,none⟩=some (.string ⟨#[71,69,84]⟩):=((bL ((bal2 w2 _ _).trans (hb3.mono (by simp;omega)))) b2 _ (ET _ _ k2)).trans k2;clear hb3 k2;go_wp2_with fail
 refine(BG (bI HMX.out H0.out HB3.out) _ ⟨_,_,rfl,fun i hi=>⟨w2.heap.size+1,0,rfl,?_⟩⟩).mono ?_
 ·have:i=0:=by simpa using hi
  subst this;exact HG3.out.cell 0
 rintro e4 w4 ⟨b4,o4,c4,rfl,k4,hb4⟩;have HT4:=lH ((HT3.out.call hb4).alloc (.cells #[.int .i64 3,.int .i64 39,.int .i64 0] 31));have HU4:=lH (af.new w4 #[.int .i64 3,.int .i64 39,.int .i64 0] 31);have HB4:=lH ((HB3.out.trans (hb4.mono HB3.out.size)).alloc (nT HB3.out.size hb4.size) (.cells #[.int .i64 3,.int .i64 39,.int .i64 0] 31));have k5:(w4.alloc (.cells #[.int .i64 3,.int .i64 39,.int .i64 0] 31)).cell? ⟨b2,o2,none⟩=some (.string ⟨#[71,69,84]⟩):=((bL (hb4.alloc hb4.size _)) b2 _ (ET _ _ k3)).trans k3;have k6:(w4.alloc (.cells #[.int .i64 3,.int .i64 39,.int .i64 0] 31)).cell? ⟨b4,o4+8,none⟩=some (.string ⟨#[97]⟩):=((bL ((EK w4.heap.size w4).alloc (nR _) _)) b4 _ (ET _ _ k4)).trans k4;clear hb4 k3 k4;have t0:=HT4.out.cell 0;have t1:=HT4.out.cell 1;have t2:=HT4.out.cell 2;have u0:=HU4.out.cell 0;have u1:=HU4.out.cell 1;have u2:=HU4.out.cell 2;simp at t0 t1 t2 u0 u1 u2;go_wp2_with fail
 go_ret;exact⟨rfl,HB4.out⟩
def yL (x:ByteArray) (ms:List ByteArray):Bool:=decide (x.size<=2000)&&(decide (ms.length<=30)&&ms.all fun m=>decide (m.size<=60))
theorem yE {x:ByteArray} {ms:List ByteArray} (h:yL x ms=true):x.size<=2000/\ms.length<=30/\∀m∈ms,m.size<=60:=by
 unfold yL at h;rw[Fq,Fq,EO,EO,Gz] at h;exact⟨h.1,h.2.1,fun m hm=>by simpa using h.2.2 m hm⟩
theorem zW (x:ByteArray) (closed:Bool) (vm:Value) (ms:List ByteArray) (a b c d e' cut:Int) (w:World) (hv:cQ w vm ms) (hml:ms.length<=9223372036854775807):
 Calls Tryz.prog 8 #[.agg #[.string x,.bool closed,vm,.int .i64 a,.int .i64 b,.int .i64 c,.int .i64 d,.int .i64 e',.int .i64 cut]] w fun e w'=>e=.returned (.bool (yL x ms))/\Below w.heap.size w w':=by
 obtain⟨F,hF⟩:∃F,F=yL x ms:=⟨_,rfl⟩;rw[<-hF];unfold yL at hF;obtain⟨p,cp,rfl,hc⟩:=hv;have HC:=lH hc;have HF:=lH hF;have HB0:=lH ((EK w.heap.size w).alloc (nR _) (.cells #[.string x,.bool closed,.slice p ms.length cp,.int .i64 a,.int .i64 b,.int .i64 c,.int .i64 d,.int .i64 e',.int .i64 cut] 26));clear hc hF;by_cases h1:x.size<=2000
 ·have d1:decide ((2000:Int)<(x.size:Int))=false:=dF (by omega)
  have d1':decide (2000<x.size)=false:=dF (by omega);by_cases h2:ms.length<=30
  ·have d2:decide ((30:Int)<(ms.length:Int))=false:=dF (by omega)
   have d2':decide (30<ms.length)=false:=dF (by omega);go_enter Tryz.func8,Tryz.ntmps8
   go_wp2_with fail
   go_loopw [18] (fun i wr=>∃k:Nat,k<=ms.length/\i=.int .i64 k/\((ms.take k).all fun m=>decide (m.size<=60))=true/\Below w.heap.size w wr) (fun i _=>ms.length - (intOf i).toNat)
   case atStart=>exact⟨0,by omega,rfl,rfl,HB0.out⟩
   case round=>
    obtain⟨k,hk,rfl,hall,hbel⟩:=hrel;have HL:=lH hbel;have HA:=lH hall;clear hbel hall;by_cases hlt:k<ms.length
    ·obtain⟨bb,off,rfl,hcell⟩:=HC.out k hlt
     obtain⟨m,hm⟩:∃m,m=ms[k]:=⟨_,rfl⟩;rw[<-hm] at hcell;have h3:=((bL HL.out) bb _ (ET w _ hcell)).trans hcell;have HM:=lH (show ∀h:k<ms.length,m=ms[k] from fun _=>hm);have hki:(k:Int)<ms.length:=by omega
     have HLT:=lH hlt;clear hcell hm;by_cases h4:m.size<=60
     ·have d4:decide ((60:Int)<(m.size:Int))=false:=dF (by omega)
      have d4':decide (60<m.size)=false:=dF (by omega);have HH4:=lH h4;clear h4;go_wp2_with fail
      go_roundw
      case rel=>
       refine⟨k+1,HLT.out,by go_num,?_,HL.out⟩;rw[E8 HLT.out,List.all_append,HA.out,<-HM.out HLT.out];simpa using HH4.out
      case measure=>simp[intOf];omega
     ·have d4:decide ((60:Int)<(m.size:Int))=true:=dT (by omega)
      have d4':decide (60<m.size)=true:=dT (by omega)
      have HN:Hid (F=false):=by
       show F=false;rw[HF.out,Bool.eq_false_iff];intro h;rw[Fq,Fq,Gz] at h;have:=h.2.2 m (by rw[HM.out hlt];exact FT hlt);simp only[EO] at this;exact h4 this
      clear h4;go_wp2_with fail
      go_ret;rw[HN.out];exact⟨rfl,HL.out⟩
    ·have hki:¬(k:Int)<ms.length:=by omega
     have HT:Hid (F=true):=by
      show F=true;have hh:=HA.out;rw[Fh (by omega)] at hh;rw[HF.out,dT h1,dT h2,hh];rfl
     go_wp2_with fail
     go_ret;rw[HT.out];exact⟨rfl,HL.out⟩
  ·have d2:decide ((30:Int)<(ms.length:Int))=true:=dT (by omega)
   have d2':decide (30<ms.length)=true:=dT (by omega);have HN:Hid (F=false):=by show F=false;rw[HF.out,dF h2];simp
   go_enter Tryz.func8,Tryz.ntmps8
   go_wp2_with fail
   go_ret;rw[HN.out];exact⟨rfl,HB0.out⟩
 ·have d1:decide ((2000:Int)<(x.size:Int))=true:=dT (by omega)
  have d1':decide (2000<x.size)=true:=dT (by omega);have HN:Hid (F=false):=by show F=false;rw[HF.out,dF h1];simp
  go_enter Tryz.func8,Tryz.ntmps8
  go_wp2_with fail
  go_ret;rw[HN.out];exact⟨rfl,HB0.out⟩
end Go.Proofs.YthjbodpeckebiaaGreatDoor
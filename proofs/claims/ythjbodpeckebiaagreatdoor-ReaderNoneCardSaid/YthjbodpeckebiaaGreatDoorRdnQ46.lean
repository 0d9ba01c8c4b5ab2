/- Texts packed for one claim, 46 of 48: BdQ Gath. -/
import Derived.Test.YthjbodpeckebiaaGreatDoorRdnQ29
import Derived.Test.YthjbodpeckebiaaGreatDoorRdnQ32
import Derived.Test.YthjbodpeckebiaaGreatDoorRdnQ5
set_option maxRecDepth 100000
set_option maxHeartbeats 16000000
set_option linter.unusedSimpArgs false
set_option linter.unusedVariables false
-- BdQ
namespace Go.Proofs.YthjbodpeckebiaaGreatDoor
open Go.RowKit
theorem iZ {w:World} {D n0:Nat} {m:Lm} {s:am} {V:bh} (h:ah w D n0 m s V) (ht:s.tr.length<=1000000):
 Calls Tryz.prog 55 #[.pointer (some ⟨D,0,none⟩)] w fun e w'=>∃v,e=.returned v/\aj w' w.heap.size v (if s.over=true then s.tr else [])/\Below w.heap.size w w':=by
 have HD:=lH (jo h.k);cases ho:s.over with
 | false=>
   rw[ho] at HD;rw[if_neg (by decide)];clear h ho;go_enter Tryz.func55,Tryz.ntmps55
   go_wp2_with (go_at_call 54;refine HD.out.mono ?_;rintro e1 w1 ⟨rfl,rfl⟩)
   go_ret;exact⟨_,rfl,aj.start _ _,tU _ _⟩
 | true=>
   rw[ho] at HD;rw[if_pos rfl];obtain⟨pt,nt,ct,hvt⟩:=aj.shape (show aj w n0 V.vt s.tr from h.r.t);have y10:w.cell? ⟨D,10,none⟩=some (.slice pt nt ct):=(h.k.cell 10).trans (uF some hvt);have hf:bL w (.slice pt nt ct) s.tr:=by rw[<-hvt];exact aj.flds (show aj w n0 V.vt s.tr from h.r.t)
   have HC:=lH (jy (.slice pt nt ct) s.tr w hf ht);clear h ho hf hvt ht;go_enter Tryz.func55,Tryz.ntmps55
   go_wp2_with (first|(go_at_call 54;refine HD.out.mono ?_;rintro e1 w1 ⟨rfl,rfl⟩)|(go_at_call 45;refine HC.out.mono ?_;rintro e2 w2 ⟨p2,c2,rfl,o2,b2⟩;have O2:=lH o2;have B2:=lH b2;clear o2 b2))
   go_ret;exact⟨_,rfl,O2.out,B2.out⟩
end Go.Proofs.YthjbodpeckebiaaGreatDoor
-- Gath
namespace Go.Proofs.YthjbodpeckebiaaGreatDoor
open Go.RowKit
end Go.Proofs.YthjbodpeckebiaaGreatDoor
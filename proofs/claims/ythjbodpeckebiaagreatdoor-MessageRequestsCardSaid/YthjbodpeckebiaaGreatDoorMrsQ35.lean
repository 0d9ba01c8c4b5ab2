/- Texts packed for one claim, 35 of 52: OpenHead. -/
import Derived.Test.YthjbodpeckebiaaGreatDoorProg
import Derived.WalkKit
import Derived.ProofKit
import Derived.OpenShut
set_option linter.unusedSimpArgs false
set_option linter.unusedVariables false
-- OpenHead
namespace Go.Proofs.YthjbodpeckebiaaGreatDoor
open Go.ChangeShapes Go.WideShapes Go.ChangeAt Go.RowKit
section
variable {H:Type} {enc:TypeId×Value->H} {P:Program} {w:World} {base:Nat} {spare:Nat->Bool} {held:Bool} {n:Nat}
theorem dU {t:TypeId} {l:List Value} {i o:Nat} {x:Value} {xs:List (DataW H×List MemPlace)} (hu:P.underlying t=some (.int .i64)) (h1:P.cellsOf t=1) (hx:l[o]? = some x) (hi:i<xs.length)
 (h:DataW.trod enc P w base spare held n t ((l.drop o).take (P.cellsOf t))=xs[i]?):∃k,x=.int .i64 k/\-9223372036854775808<=k/\k<=9223372036854775807:=by
 rw[h1,List.getElem?_eq_getElem hi] at h;obtain⟨ho,rfl⟩:=List.getElem?_eq_some_iff.1 hx;rw[List.drop_eq_getElem_cons ho] at h;obtain⟨k,hk,_,hw⟩:=DataW.trod_int hu h;simp only[List.take_succ_cons,List.take_zero,List.cons.injEq,and_true] at hk;simp only[Lit.wf,Bool.and_eq_true,decide_eq_true_eq] at hw;exact⟨k,hk,hw⟩
theorem tz {t:TypeId} {l:List Value} {i o:Nat} {x:Value} {xs:List (DataW H×List MemPlace)} (hu:P.underlying t=some .string) (h1:P.cellsOf t=1) (hx:l[o]? = some x) (hi:i<xs.length)
 (h:DataW.trod enc P w base spare held n t ((l.drop o).take (P.cellsOf t))=xs[i]?):∃s,x=.string s/\s.size<=9223372036854775807:=by
 rw[h1,List.getElem?_eq_getElem hi] at h;obtain⟨ho,rfl⟩:=List.getElem?_eq_some_iff.1 hx;rw[List.drop_eq_getElem_cons ho] at h;obtain⟨k,hk,_,hw⟩:=DataW.trod_string hu h;simp only[List.take_succ_cons,List.take_zero,List.cons.injEq,and_true] at hk;unfold maxLen at hw;exact⟨k,hk,by omega⟩
end
end Go.Proofs.YthjbodpeckebiaaGreatDoor
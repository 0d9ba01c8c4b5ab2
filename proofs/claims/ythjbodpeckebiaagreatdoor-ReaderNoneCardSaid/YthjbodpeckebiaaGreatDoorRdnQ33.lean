/- Texts packed for one claim, 33 of 48: BldW. -/
import Derived.Test.YthjbodpeckebiaaGreatDoorRdnQ2
import Derived.RegionTactic
import Derived.Laws.Externs
import Derived.Lib.Builder
import Derived.Lib.UnsafeStr
import Derived.Lib.AppendStr
import Derived.Lib.Strings
import Derived.Lib.FrozenHead
set_option linter.unusedSimpArgs false
set_option linter.unusedVariables false
-- BldW
namespace Go.Proofs.YthjbodpeckebiaaGreatDoor
open Go.RowKit
namespace Own
def Row (w:World) (B i:Nat):Prop:=B<=i/\∃cs fz,w.heap[i]? = some (.cells cs 5 fz)
theorem Row.of_own {w:World} {B n k:Nat} {v:Value} {xs:List Value} (h:w.ownsRowF B 5 1 v n xs) (hk:v.ownBlock=some k):Row w B k:=by
 refine⟨(h.lt k hk).1,?_⟩;rcases h.2 with ⟨rfl,_⟩|⟨g,cap,cur,fz,rfl,_,hg,_⟩
 ·cases hk
 ·injection hk with hk
  subst hk;exact⟨_,_,hg⟩
theorem Row.back {P:Nat->Prop} {w w1:World} {B i:Nat} (h:Row w1 B i) (t:aa P w w1) (hi:i<w.heap.size) (hp:¬P i):Row w B i:=by
 obtain⟨h1,cs,fz,h2⟩:=h;exact⟨h1,cs,fz,(t.block i hi hp).symm.trans h2⟩
end Own
end Go.Proofs.YthjbodpeckebiaaGreatDoor
/- Texts packed for one claim, 35 of 48: OpenHead. -/
import Derived.Test.YthjbodpeckebiaaGreatDoorProg
import Derived.WalkKit
import Derived.ProofKit
import Derived.OpenShut
set_option linter.unusedSimpArgs false
set_option linter.unusedVariables false
-- OpenHead
namespace Go.Proofs.YthjbodpeckebiaaGreatDoor
open Go.ChangeShapes Go.WideShapes Go.ChangeAt Go.RowKit
section
variable {H:Type} {enc:TypeId×Value->H} {P:Program} {w:World} {base:Nat} {spare:Nat->Bool} {held:Bool} {n:Nat}
end
end Go.Proofs.YthjbodpeckebiaaGreatDoor
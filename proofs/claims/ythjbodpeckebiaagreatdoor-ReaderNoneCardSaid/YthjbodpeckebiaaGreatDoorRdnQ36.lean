/- Texts packed for one claim, 36 of 48: OpenLim. -/
import Derived.Test.YthjbodpeckebiaaGreatDoorRdnQ35
import Derived.Test.YthjbodpeckebiaaGreatDoorRdnQ17
import Derived.Deep.Slices
import Derived.Deep.Fields
import Derived.ChangeSame
set_option linter.unusedSimpArgs false
set_option linter.unusedVariables false
-- OpenLim
namespace Go.Proofs.YthjbodpeckebiaaGreatDoor
open Go.RowKit Go.ChangeShapes Go.WideShapes Go.Deep
section
variable {H:Type} {enc:TypeId×Value->H} {P:Program} {w:World}
end
end Go.Proofs.YthjbodpeckebiaaGreatDoor
/- Texts packed for one claim, 37 of 48: OpenFd. -/
import Derived.Test.YthjbodpeckebiaaGreatDoorRdnQ31
import Derived.Test.YthjbodpeckebiaaGreatDoorRdnQ35
import Derived.Deep.Slices
import Derived.Deep.Fields
import Derived.ChangeSame
set_option linter.unusedSimpArgs false
set_option linter.unusedVariables false
-- OpenFd
namespace Go.Proofs.YthjbodpeckebiaaGreatDoor
open Go.RowKit Go.ChangeShapes Go.WideShapes Go.Deep
section
variable {H:Type} {enc:TypeId×Value->H} {P:Program} {w:World}
end
end Go.Proofs.YthjbodpeckebiaaGreatDoor
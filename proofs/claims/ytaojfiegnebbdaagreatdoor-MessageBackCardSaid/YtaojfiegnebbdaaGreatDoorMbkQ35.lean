/- Texts packed for one claim, 35 of 52: OpenLim. -/
import Derived.Test.YtaojfiegnebbdaaGreatDoorMbkQ34
import Derived.Test.YtaojfiegnebbdaaGreatDoorMbkQ15
import Derived.Deep.Slices
import Derived.Deep.Fields
import Derived.ChangeSame
set_option linter.unusedSimpArgs false
set_option linter.unusedVariables false
-- OpenLim
namespace Go.Proofs.YtaojfiegnebbdaaGreatDoor
open Go.RowKit Go.ChangeShapes Go.WideShapes Go.Deep
section
variable {H : Type} {enc : TypeId × Value → H} {P : Program} {w : World}
end
end Go.Proofs.YtaojfiegnebbdaaGreatDoor
/- Texts packed for one claim, 12 of 47: FParseR. -/
import Derived.Test.YteloccgdafphfaaGreatDoorMsgQ6
import Derived.Test.YteloccgdafphfaaGreatDoorMsgQ7
import Derived.Test.YteloccgdafphfaaGreatDoorMsgQ11
import Derived.IntWalk
set_option linter.unusedSimpArgs false
set_option linter.unusedVariables false
-- FParseR
namespace Go.Proofs.YteloccgdafphfaaGreatDoor
open Go.RowKit
end Go.Proofs.YteloccgdafphfaaGreatDoor

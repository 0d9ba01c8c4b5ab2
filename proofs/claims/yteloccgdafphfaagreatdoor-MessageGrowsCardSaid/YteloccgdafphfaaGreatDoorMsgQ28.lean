/- Texts packed for one claim, 28 of 47: Field. -/
import Derived.Test.YteloccgdafphfaaGreatDoorMsgQ4
import Derived.Test.YteloccgdafphfaaGreatDoorMsgQ3
import Derived.Test.YteloccgdafphfaaGreatDoorMsgQ7
set_option linter.unusedSimpArgs false
set_option linter.unusedVariables false
-- Field
namespace Go.Proofs.YteloccgdafphfaaGreatDoor
open Go.RowKit
end Go.Proofs.YteloccgdafphfaaGreatDoor

/- Texts packed for one claim, 36 of 47: HdB HRight HdF HeadPrints HBackP. -/
import Derived.Test.YteloccgdafphfaaGreatDoorMsgQ29
import Derived.Test.YteloccgdafphfaaGreatDoorMsgQ30
import Derived.Test.YteloccgdafphfaaGreatDoorMsgQ33
import Derived.Test.YteloccgdafphfaaGreatDoorMsgQ35
import Derived.Test.YteloccgdafphfaaGreatDoorMsgQ31
-- HdB
-- HRight
set_option linter.unusedSimpArgs false
set_option linter.unusedVariables false
namespace Go.Proofs.YteloccgdafphfaaGreatDoor
open Go.RowKit
end Go.Proofs.YteloccgdafphfaaGreatDoor
-- HdF
-- HeadPrints
set_option linter.unusedSimpArgs false
set_option linter.unusedVariables false
namespace Go.Proofs.YteloccgdafphfaaGreatDoor
open Go.RowKit
end Go.Proofs.YteloccgdafphfaaGreatDoor
-- HBackP
set_option linter.unusedSimpArgs false
set_option linter.unusedVariables false
namespace Go.Proofs.YteloccgdafphfaaGreatDoor
open Go.RowKit
end Go.Proofs.YteloccgdafphfaaGreatDoor

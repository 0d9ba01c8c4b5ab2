/- Texts packed for one claim, 30 of 47: Last Few Line. -/
import Derived.Test.YteloccgdafphfaaGreatDoorMsgQ28
import Derived.Test.YteloccgdafphfaaGreatDoorMsgQ29
import Derived.Test.YteloccgdafphfaaGreatDoorMsgQ4
import Derived.Test.YteloccgdafphfaaGreatDoorMsgQ7
set_option linter.unusedSimpArgs false
set_option linter.unusedVariables false
-- Last
namespace Go.Proofs.YteloccgdafphfaaGreatDoor
open Go.RowKit
end Go.Proofs.YteloccgdafphfaaGreatDoor
-- Few
namespace Go.Proofs.YteloccgdafphfaaGreatDoor
open Go.RowKit
end Go.Proofs.YteloccgdafphfaaGreatDoor
-- Line
namespace Go.Proofs.YteloccgdafphfaaGreatDoor
open Go.RowKit
end Go.Proofs.YteloccgdafphfaaGreatDoor

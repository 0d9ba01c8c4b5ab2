/- Texts packed for one claim, 33 of 47: HPrint HLives. -/
import Derived.Test.YteloccgdafphfaaGreatDoorMsgQ31
import Derived.Test.YteloccgdafphfaaGreatDoorMsgQ30
import Derived.Test.YteloccgdafphfaaGreatDoorMsgQ32
set_option linter.unusedSimpArgs false
set_option linter.unusedVariables false
-- HPrint
namespace Go.Proofs.YteloccgdafphfaaGreatDoor
open Go.RowKit
end Go.Proofs.YteloccgdafphfaaGreatDoor
-- HLives
namespace Go.Proofs.YteloccgdafphfaaGreatDoor
open Go.RowKit
end Go.Proofs.YteloccgdafphfaaGreatDoor

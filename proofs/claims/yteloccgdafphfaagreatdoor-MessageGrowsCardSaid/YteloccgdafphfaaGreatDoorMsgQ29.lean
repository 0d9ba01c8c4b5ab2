/- Texts packed for one claim, 29 of 47: Text Hex. -/
import Derived.Test.YteloccgdafphfaaGreatDoorMsgQ11
import Derived.Test.YteloccgdafphfaaGreatDoorMsgShelf
import Derived.Lib.Repeat
set_option linter.unusedSimpArgs false
set_option linter.unusedVariables false
-- Text
namespace Go.Proofs.YteloccgdafphfaaGreatDoor
open Go.RowKit
end Go.Proofs.YteloccgdafphfaaGreatDoor
-- Hex
namespace Go.Proofs.YteloccgdafphfaaGreatDoor
open Go.RowKit
end Go.Proofs.YteloccgdafphfaaGreatDoor

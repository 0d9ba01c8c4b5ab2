/- Texts packed for one claim, 30 of 52: Text Hex. -/
import Derived.Test.YthjbodpeckebiaaGreatDoorMrsQ11
import Derived.Test.YthjbodpeckebiaaGreatDoorMrsShelf
import Derived.Lib.Repeat
set_option linter.unusedSimpArgs false
set_option linter.unusedVariables false
-- Text
namespace Go.Proofs.YthjbodpeckebiaaGreatDoor
open Go.RowKit
end Go.Proofs.YthjbodpeckebiaaGreatDoor
-- Hex
namespace Go.Proofs.YthjbodpeckebiaaGreatDoor
open Go.RowKit
end Go.Proofs.YthjbodpeckebiaaGreatDoor
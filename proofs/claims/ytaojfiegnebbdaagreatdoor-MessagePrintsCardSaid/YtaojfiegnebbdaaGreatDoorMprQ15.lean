/- Texts packed for one claim, 15 of 50: FParseR. -/
import Derived.Test.YtaojfiegnebbdaaGreatDoorMprQ11
import Derived.Test.YtaojfiegnebbdaaGreatDoorMprQ5
import Derived.Test.YtaojfiegnebbdaaGreatDoorMprQ7
import Derived.IntWalk
set_option linter.unusedSimpArgs false
set_option linter.unusedVariables false
-- FParseR
namespace Go.Proofs.YtaojfiegnebbdaaGreatDoor
open Go.RowKit
end Go.Proofs.YtaojfiegnebbdaaGreatDoor
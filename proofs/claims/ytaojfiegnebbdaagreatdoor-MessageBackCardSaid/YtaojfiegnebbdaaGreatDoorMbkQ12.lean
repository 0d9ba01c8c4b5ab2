/- Texts packed for one claim, 12 of 52: FParseR. -/
import Derived.Test.YtaojfiegnebbdaaGreatDoorMbkQ6
import Derived.Test.YtaojfiegnebbdaaGreatDoorMbkQ7
import Derived.Test.YtaojfiegnebbdaaGreatDoorMbkQ11
import Derived.IntWalk
set_option linter.unusedSimpArgs false
set_option linter.unusedVariables false
-- FParseR
namespace Go.Proofs.YtaojfiegnebbdaaGreatDoor
open Go.RowKit
end Go.Proofs.YtaojfiegnebbdaaGreatDoor
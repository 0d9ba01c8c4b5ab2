/- Texts packed for one claim, 12 of 48: FParseR. -/
import Derived.Test.YthjbodpeckebiaaGreatDoorRdnQ6
import Derived.Test.YthjbodpeckebiaaGreatDoorRdnQ7
import Derived.Test.YthjbodpeckebiaaGreatDoorRdnQ11
import Derived.IntWalk
set_option linter.unusedSimpArgs false
set_option linter.unusedVariables false
-- FParseR
namespace Go.Proofs.YthjbodpeckebiaaGreatDoor
open Go.RowKit
end Go.Proofs.YthjbodpeckebiaaGreatDoor
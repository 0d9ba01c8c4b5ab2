/- Texts packed for one claim, 34 of 48: HPrint HLives. -/
import Derived.Test.YthjbodpeckebiaaGreatDoorRdnQ32
import Derived.Test.YthjbodpeckebiaaGreatDoorRdnQ31
import Derived.Test.YthjbodpeckebiaaGreatDoorRdnQ33
set_option linter.unusedSimpArgs false
set_option linter.unusedVariables false
-- HPrint
namespace Go.Proofs.YthjbodpeckebiaaGreatDoor
open Go.RowKit
end Go.Proofs.YthjbodpeckebiaaGreatDoor
-- HLives
namespace Go.Proofs.YthjbodpeckebiaaGreatDoor
open Go.RowKit
end Go.Proofs.YthjbodpeckebiaaGreatDoor
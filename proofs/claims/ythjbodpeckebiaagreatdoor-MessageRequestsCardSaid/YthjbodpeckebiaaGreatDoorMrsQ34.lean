/- Texts packed for one claim, 34 of 52: HPrint HLives. -/
import Derived.Test.YthjbodpeckebiaaGreatDoorMrsQ32
import Derived.Test.YthjbodpeckebiaaGreatDoorMrsQ31
import Derived.Test.YthjbodpeckebiaaGreatDoorMrsQ33
set_option linter.unusedSimpArgs false
set_option linter.unusedVariables false
-- HPrint
namespace Go.Proofs.YthjbodpeckebiaaGreatDoor
open Go.RowKit
end Go.Proofs.YthjbodpeckebiaaGreatDoor
-- HLives
namespace Go.Proofs.YthjbodpeckebiaaGreatDoor
open Go.RowKit
end Go.Proofs.YthjbodpeckebiaaGreatDoor
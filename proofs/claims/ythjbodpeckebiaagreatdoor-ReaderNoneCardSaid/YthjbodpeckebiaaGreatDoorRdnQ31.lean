/- Texts packed for one claim, 31 of 48: Last Few Line. -/
import Derived.Test.YthjbodpeckebiaaGreatDoorRdnQ15
import Derived.Test.YthjbodpeckebiaaGreatDoorRdnQ30
import Derived.Test.YthjbodpeckebiaaGreatDoorRdnQ4
import Derived.Test.YthjbodpeckebiaaGreatDoorRdnQ7
set_option linter.unusedSimpArgs false
set_option linter.unusedVariables false
-- Last
namespace Go.Proofs.YthjbodpeckebiaaGreatDoor
open Go.RowKit
end Go.Proofs.YthjbodpeckebiaaGreatDoor
-- Few
namespace Go.Proofs.YthjbodpeckebiaaGreatDoor
open Go.RowKit
end Go.Proofs.YthjbodpeckebiaaGreatDoor
-- Line
namespace Go.Proofs.YthjbodpeckebiaaGreatDoor
open Go.RowKit
end Go.Proofs.YthjbodpeckebiaaGreatDoor
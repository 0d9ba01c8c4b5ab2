/- Texts packed for one claim, 31 of 52: Last Few Line. -/
import Derived.Test.YthjbodpeckebiaaGreatDoorMrsQ15
import Derived.Test.YthjbodpeckebiaaGreatDoorMrsQ30
import Derived.Test.YthjbodpeckebiaaGreatDoorMrsQ4
import Derived.Test.YthjbodpeckebiaaGreatDoorMrsQ7
set_option linter.unusedSimpArgs false
set_option linter.unusedVariables false
-- Last
namespace Go.Proofs.YthjbodpeckebiaaGreatDoor
open Go.RowKit
end Go.Proofs.YthjbodpeckebiaaGreatDoor
-- Few
namespace Go.Proofs.YthjbodpeckebiaaGreatDoor
open Go.RowKit
end Go.Proofs.YthjbodpeckebiaaGreatDoor
-- Line
namespace Go.Proofs.YthjbodpeckebiaaGreatDoor
open Go.RowKit
end Go.Proofs.YthjbodpeckebiaaGreatDoor
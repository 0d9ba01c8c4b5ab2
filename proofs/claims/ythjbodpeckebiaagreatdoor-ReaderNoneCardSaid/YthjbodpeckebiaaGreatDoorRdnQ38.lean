/- Texts packed for one claim, 38 of 48: HdB HRight HdF HeadPrints HBackP Join HNil HdE. -/
import Derived.Test.YthjbodpeckebiaaGreatDoorRdnQ30
import Derived.Test.YthjbodpeckebiaaGreatDoorRdnQ31
import Derived.Test.YthjbodpeckebiaaGreatDoorRdnQ34
import Derived.Test.YthjbodpeckebiaaGreatDoorRdnQ36
import Derived.Test.YthjbodpeckebiaaGreatDoorRdnQ32
import Derived.Test.YthjbodpeckebiaaGreatDoorRdnQ37
-- HdB
-- HRight
set_option linter.unusedSimpArgs false
set_option linter.unusedVariables false
namespace Go.Proofs.YthjbodpeckebiaaGreatDoor
open Go.RowKit
end Go.Proofs.YthjbodpeckebiaaGreatDoor
-- HdF
-- HeadPrints
set_option linter.unusedSimpArgs false
set_option linter.unusedVariables false
namespace Go.Proofs.YthjbodpeckebiaaGreatDoor
open Go.RowKit
end Go.Proofs.YthjbodpeckebiaaGreatDoor
-- HBackP
set_option linter.unusedSimpArgs false
set_option linter.unusedVariables false
namespace Go.Proofs.YthjbodpeckebiaaGreatDoor
open Go.RowKit
end Go.Proofs.YthjbodpeckebiaaGreatDoor
-- Join
namespace Go.Proofs.YthjbodpeckebiaaGreatDoor
open Go.RowKit
end Go.Proofs.YthjbodpeckebiaaGreatDoor
-- HNil
namespace Go.Proofs.YthjbodpeckebiaaGreatDoor
open Go.RowKit
end Go.Proofs.YthjbodpeckebiaaGreatDoor
-- HdE
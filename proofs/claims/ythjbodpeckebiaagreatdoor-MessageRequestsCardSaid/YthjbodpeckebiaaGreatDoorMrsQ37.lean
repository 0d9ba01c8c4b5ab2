/- Texts packed for one claim, 37 of 52: HdB HRight HdF HeadPrints HBackP. -/
import Derived.Test.YthjbodpeckebiaaGreatDoorMrsQ30
import Derived.Test.YthjbodpeckebiaaGreatDoorMrsQ31
import Derived.Test.YthjbodpeckebiaaGreatDoorMrsQ34
import Derived.Test.YthjbodpeckebiaaGreatDoorMrsQ36
import Derived.Test.YthjbodpeckebiaaGreatDoorMrsQ32
-- HdB
-- HRight
set_option linter.unusedSimpArgs false
set_option linter.unusedVariables false
namespace Go.Proofs.YthjbodpeckebiaaGreatDoor
open Go.RowKit
end Go.Proofs.YthjbodpeckebiaaGreatDoor
-- HdF
-- HeadPrints
set_option linter.unusedSimpArgs false
set_option linter.unusedVariables false
namespace Go.Proofs.YthjbodpeckebiaaGreatDoor
open Go.RowKit
end Go.Proofs.YthjbodpeckebiaaGreatDoor
-- HBackP
set_option linter.unusedSimpArgs false
set_option linter.unusedVariables false
namespace Go.Proofs.YthjbodpeckebiaaGreatDoor
open Go.RowKit
theorem du (b:ByteArray):aw b.data.toList=b:=by unfold aw;apply bj;rfl
end Go.Proofs.YthjbodpeckebiaaGreatDoor
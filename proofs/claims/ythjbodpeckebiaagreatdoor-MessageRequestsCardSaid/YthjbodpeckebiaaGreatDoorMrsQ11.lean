/- Texts packed for one claim, 11 of 52: Fig. -/
import Derived.Test.YthjbodpeckebiaaGreatDoorMrsQ2
import Derived.Laws.BytesArg
set_option linter.unusedSimpArgs false
set_option linter.unusedVariables false
-- Fig
namespace Go.Proofs.YthjbodpeckebiaaGreatDoor
open Go.RowKit
def room (p:Nat) (acc:List UInt8):List UInt8:=List.replicate p 0++acc
end Go.Proofs.YthjbodpeckebiaaGreatDoor
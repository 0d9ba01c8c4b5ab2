/- Texts packed for one claim, 11 of 48: Fig. -/
import Derived.Test.YthjbodpeckebiaaGreatDoorRdnQ2
import Derived.Laws.BytesArg
set_option linter.unusedSimpArgs false
set_option linter.unusedVariables false
-- Fig
namespace Go.Proofs.YthjbodpeckebiaaGreatDoor
open Go.RowKit
def oK (d:Nat):UInt8:=if d<10 then UInt8.ofNat (48+d) else UInt8.ofNat (87+d)
def jc (b n:Nat):List UInt8:=if h:2<=b/\b<=n then jc b (n / b)++[oK (n % b)] else [oK n]
termination_by n
decreasing_by exact Nat.div_lt_self (by omega) (by omega)
def room (p:Nat) (acc:List UInt8):List UInt8:=List.replicate p 0++acc
def s8:ByteArray:=⟨#[48,49,50,51,52,53,54,55,56,57,97,98,99,100,101,102]⟩
end Go.Proofs.YthjbodpeckebiaaGreatDoor
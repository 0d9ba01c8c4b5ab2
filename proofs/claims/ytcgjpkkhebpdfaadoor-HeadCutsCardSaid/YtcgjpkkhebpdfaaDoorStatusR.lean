/- The reference's Status: what it answers, path by path. -/
import Derived.Test.YtcgjpkkhebpdfaaDoorStatusAll
set_option linter.unusedSimpArgs false
set_option linter.unusedVariables false
namespace Go.Proofs.YtcgjpkkhebpdfaaDoor
open Go.RowKit
end Go.Proofs.YtcgjpkkhebpdfaaDoor


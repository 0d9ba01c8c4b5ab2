/- The reference's Status: what it answers, path by path. -/
import Derived.Test.YtcgjpkkhebpdfaaDoorStatusAll
namespace Go.Proofs.YtcgjpkkhebpdfaaDoor
open Go.RowKit
end Go.Proofs.YtcgjpkkhebpdfaaDoor


/- Package abutmentlaw38's act: the calls that tell something. -/
import Derived.Test.YtekbmefdaepgcaaLinkAct
namespace Go.Proofs.Ytekbmefdaepgcaa
open Go.RowKit
end Go.Proofs.Ytekbmefdaepgcaa

/- The reference's Unfold. -/
import Derived.Test.YtcgjpkkhebpdfaaDoorUnfold
import Derived.Test.YtcgjpkkhebpdfaaDoorHeld
set_option linter.unusedSimpArgs false
set_option linter.unusedVariables false
namespace Go.Proofs.YtcgjpkkhebpdfaaDoor
open Go.RowKit
theorem news_one (V : World) (J : ByteArray) : ∀ j (hj : j < [J].length), (V.alloc (.cells #[.string J] 9)).cell? ⟨V.heap.size, 0 + j, none⟩ = some (.string [J][j]) := by
  intro j hj
  have e : j = 0 := by simp at hj; omega
  subst e
  exact (Blk.new V #[.string J] 9).cell 0
end Go.Proofs.YtcgjpkkhebpdfaaDoor

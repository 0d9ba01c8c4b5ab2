/- The reference's Parse of a head. -/
import Derived.Test.YtcgjpkkhebpdfaaDoorHParse
import Derived.Deep.Cut
set_option linter.unusedSimpArgs false
set_option linter.unusedVariables false
namespace Go.Proofs.YtcgjpkkhebpdfaaDoor
open Go.RowKit
theorem blk_far6 {w : World} {g g' : Nat} {cs : Array Value} {t : TypeId} (h : Blk w g' cs t) (hne : g' ≠ g) (a b c d e f : Value) : Blk (set6 w g a b c d e f) g' cs t :=
  (((((h.far (p := ⟨g, 0, none⟩) hne a).far (p := ⟨g, 1, none⟩) hne b).far (p := ⟨g, 2, none⟩) hne c).far (p := ⟨g, 3, none⟩) hne d).far (p := ⟨g, 4, none⟩) hne e).far (p := ⟨g, 5, none⟩) hne f
/-- A halt ahead of a region: its world gets a name. -/
theorem wp_here (id : Nat) {P : Program} {ops : Array Oper} {b : Bool} {Q : Exit → Act → World → Prop} {a : Act} {w : World} (h : ∀ w', w' = w → (Code.region id ops b).wp P Q a w') : (Code.region id ops b).wp P Q a w := h w rfl
end Go.Proofs.YtcgjpkkhebpdfaaDoor

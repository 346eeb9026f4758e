/- Variables as affine expressions, equality of affine expressions; condition: what the arguments hold. -/
import Derived.Test.YtkhlaphegnldeaaDoorAffA
import Derived.Test.YtkhlaphegnldeaaDoorEqInts
namespace Go.Proofs.YtkhlaphegnldeaaDoor
set_option linter.unusedVariables false
set_option linter.unusedSimpArgs false
open Go.RowKit



/-- Equal expressions: coefficients and constants. -/
def sameOf (x y : Aff) : Bool := decide (x.1 = y.1) && (x.2 == y.2)
theorem sameOf_iff (x y : Aff) : sameOf x y = true ↔ x = y := by
  unfold sameOf
  constructor
  · intro h
    simp at h
    exact Prod.ext h.1 h.2
  · intro h; subst h; simp
theorem sameOf_eq (x y : Aff) : sameOf x y = decide (x = y) := by
  rw [Bool.eq_iff_iff, sameOf_iff, decide_eq_true_eq]
end Go.Proofs.YtkhlaphegnldeaaDoor

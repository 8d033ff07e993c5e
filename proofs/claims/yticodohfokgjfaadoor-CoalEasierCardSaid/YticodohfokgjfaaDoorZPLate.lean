/- The last day on which the collier may come; books that differ by when it comes. -/
import Derived.Test.YticodohfokgjfaaDoorZPTold
set_option linter.unusedVariables false
set_option linter.unusedSimpArgs false
namespace Go.Proofs.YticodohfokgjfaaDoor
open Go Go.Fx
theorem order_nil {b : CoalBook} (V : Val b) (A : Arg b) (h : TT b = []) : coal_Order b = some (0, 62) := by
  unfold coal_Order
  rw [asked_eq V A, Option.bind_some, h]
  rfl
end Go.Proofs.YticodohfokgjfaaDoor

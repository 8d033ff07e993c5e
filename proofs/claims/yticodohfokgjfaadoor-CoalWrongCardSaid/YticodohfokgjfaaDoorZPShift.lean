/- Orders, eating and winds; a heap that is so much higher. -/
import Derived.Test.YticodohfokgjfaaDoorZPLate
set_option linter.unusedVariables false
set_option linter.unusedSimpArgs false
namespace Go.Proofs.YticodohfokgjfaaDoor
open Go Go.Fx
structure OrderOf (len : Nat) (L : List Coal_truth) (n : Int) : Prop where
  n0 : 0 ≤ n
  hi : n ≤ 100000
  ge : ∀ k, k < len → ∀ t ∈ L, -coalAt k t ≤ n
  is : n = 0 ∨ ∃ k, k < len ∧ ∃ t ∈ L, n = -coalAt k t
/-! a heap that is higher -/
def shT (n : Int) (m : Nat) (t : Coal_truth) : Coal_truth := Coal_truth.mk t.eats_ t.collier_ t.winds_ ((List.range 6).map fun k => if k < m then t.coal_.getD k 0 + n else t.coal_.getD k 0)
end Go.Proofs.YticodohfokgjfaaDoor

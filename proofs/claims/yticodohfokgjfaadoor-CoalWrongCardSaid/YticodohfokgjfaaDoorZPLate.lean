/- The last day on which the collier may come; books that differ by when it comes. -/
import Derived.Test.YticodohfokgjfaaDoorZPTold
set_option linter.unusedVariables false
set_option linter.unusedSimpArgs false
namespace Go.Proofs.YticodohfokgjfaaDoor
open Go Go.Fx
end Go.Proofs.YticodohfokgjfaaDoor

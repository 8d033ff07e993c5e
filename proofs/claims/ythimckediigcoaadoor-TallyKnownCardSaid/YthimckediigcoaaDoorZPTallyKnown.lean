/- The closed law. -/
import Derived.Test.YthimckediigcoaaDoorZWTallyKnown
import Derived.KernelRfl
set_option linter.unusedVariables false
namespace Go.Proofs.YthimckediigcoaaDoor
open Go Go.Fx
theorem law_tallyKnown:law_TallyKnown=some true:=by kernel_rfl
end Go.Proofs.YthimckediigcoaaDoor
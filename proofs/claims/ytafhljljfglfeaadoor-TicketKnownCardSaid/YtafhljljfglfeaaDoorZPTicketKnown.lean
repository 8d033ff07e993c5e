/- The closed law. -/
import Derived.Test.YtafhljljfglfeaaDoorZWTicketKnown
import Derived.KernelRfl
set_option linter.unusedVariables false
namespace Go.Proofs.YtafhljljfglfeaaDoor
open Go Go.Fx
theorem law_ticketKnown:law_TicketKnown=some true:=by kernel_rfl
end Go.Proofs.YtafhljljfglfeaaDoor
/- The chapter's examples, reckoned by the kernel. -/
import Derived.Test.YtplpalmabgjibaaDoorZWAll
import Derived.KernelRfl
namespace Go.Proofs.YtplpalmabgjibaaDoor
open Go Go.Fx Go.Proofs
theorem counted_t : law_counted = some true := by kernel_rfl
end Go.Proofs.YtplpalmabgjibaaDoor

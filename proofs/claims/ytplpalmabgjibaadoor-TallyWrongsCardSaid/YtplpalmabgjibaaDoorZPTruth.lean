/- Plain facts: what truly crossed on each trip, and whether a book's counts are right of it. -/
import Derived.Test.YtplpalmabgjibaaDoorZPWithout
set_option linter.unusedVariables false
set_option linter.unusedSimpArgs false
namespace Go.Proofs.YtplpalmabgjibaaDoor
open Go Go.Fx Go.Tally
/-- how many crossed before the k-th place -/
def pre (u : List Int) (k : Nat) : Int := (u.take k).sum
/-- is each number of a truth between none and all -/
structure Tru (b : TallyBook) (u : List Int) : Prop where
  len : (u.length : Int) = b.Trips
  bnd : ∀ n ∈ u, 0 ≤ n ∧ n ≤ b.Room
end Go.Proofs.YtplpalmabgjibaaDoor

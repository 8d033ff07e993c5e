/- What is told of a book, by all of its truths. -/
import Derived.Test.YticodohfokgjfaaDoorZPOpen
import Derived.KernelRfl
set_option linter.unusedVariables false
set_option linter.unusedSimpArgs false
namespace Go.Proofs.YticodohfokgjfaaDoor
open Go Go.Fx
theorem stoked_eq : law_stoked = some true := by kernel_rfl
/-- a truth as it is built -/
structure Tru (q : Coal_book) (t : Coal_truth) : Prop where
  el : t.eats_.length = 2
  wl : t.winds_.length = 6
  cl : t.coal_.length = 6
  wi : ∀ k, k < q.CoalBook.Days.length → 0 ≤ t.winds_.getD k 0 ∧ t.winds_.getD k 0 ≤ 2
  co : ∀ k, k < q.CoalBook.Days.length → -100000 ≤ coalAt k t ∧ coalAt k t ≤ 100000
abbrev TT (b : CoalBook) : List Coal_truth := truths (opn b [])
theorem right_law {b : CoalBook} (V : Val b) (A : Arg b) : coal_Right b = some (!(TT b).isEmpty, 0) := by
  unfold coal_Right
  rw [check_eq b A, val_iff.2 V, Option.bind_some, opened_eq V A [] (by simp), Option.bind_some]
  rw [show (Coal_book.mk (CoalBook.mk (opn b []).CoalBook.Heap (opn b []).CoalBook.Eats (opn b []).CoalBook.Extra b.Days (opn b []).CoalBook.Collier (opn b []).CoalBook.Brings (opn b []).CoalBook.Dips) (opn b []).costs_) = opn b [] from rfl]
  rw [isTrue_eq _ (opn_op V A []), Option.bind_some]
  rfl
end Go.Proofs.YticodohfokgjfaaDoor

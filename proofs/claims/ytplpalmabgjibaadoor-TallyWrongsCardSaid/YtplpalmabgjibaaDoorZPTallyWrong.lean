/- The plain law of the counts that must be false. -/
import Derived.Test.YtplpalmabgjibaaDoorZWTallyWrong
import Derived.Test.YtplpalmabgjibaaDoorZPWrong
import Derived.Test.YtplpalmabgjibaaDoorZPCounted
set_option linter.unusedVariables false
set_option linter.unusedSimpArgs false
namespace Go.Proofs.YtplpalmabgjibaaDoor
open Go Go.Fx Go.Tally
theorem wrong_bad {b : TallyBook} (hl : b.Counts.length ≤ 9223372036854775807) (h : valB b = false) : tally_Wrong b = some ([], 50) := by
  unfold tally_Wrong
  rw [check_eq b hl, h]
  rfl
theorem Clm.up {l : List Int} {n m : Int} (h : Clm l n) (hm : n ≤ m) : Clm l m := fun k x hx => by
  obtain ⟨a, b, c⟩ := h k x hx
  exact ⟨a, by omega, c⟩
theorem Clm.last {l : List Int} {n y : Int} (h : Clm l n) (hy : l.getLast? = some y) : y < n := by
  rw [List.getLast?_eq_getElem?] at hy
  exact (h _ _ hy).2.1
end Go.Proofs.YtplpalmabgjibaaDoor

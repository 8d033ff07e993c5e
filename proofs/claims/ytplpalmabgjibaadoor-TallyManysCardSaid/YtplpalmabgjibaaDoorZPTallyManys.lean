/- The plain law of Check, Right, Many and Pays: the program answers as the specification. -/
import Derived.Test.YtplpalmabgjibaaDoorZWTallyManys
import Derived.Test.YtplpalmabgjibaaDoorZPSame
set_option linter.unusedVariables false
set_option linter.unusedSimpArgs false
namespace Go.Proofs.YtplpalmabgjibaaDoor
open Go Go.Fx Go.Tally
theorem law_tallyManys_t (b : TallyBook) (h : b.Counts.length * 56 ≤ 140737488355328) (a : List Int) : law_TallyManys b a = some true := by
  have hl : b.Counts.length ≤ 9223372036854775807 := by omega
  have main : law_tallyManys b b a = some true := by
    obtain ⟨r1, h1, g1⟩ := right_same b hl
    obtain ⟨r2, h2, g2⟩ := many_same b hl (aget a 0) (aget a 1)
    obtain ⟨r3, h3, g3⟩ := pays_same b hl (aget a 2)
    unfold law_tallyManys
    rw [check_same b hl, check_eq b hl]
    simp only [h1, g1, h2, g2, h3, g3, Option.bind_some, bne_self_eq_false, cond_false, beq_self_eq_true, Bool.and_self, Bool.not_true, cond_true]
  unfold law_TallyManys
  rw [own_eq h, Option.bind_some, main, Option.bind_some, kept_eq b (by omega), counted_t]
  rfl
end Go.Proofs.YtplpalmabgjibaaDoor

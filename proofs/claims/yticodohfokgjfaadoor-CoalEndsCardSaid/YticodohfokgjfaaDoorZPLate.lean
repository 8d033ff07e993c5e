/- The last day on which the collier may come; books that differ by when it comes. -/
import Derived.Test.YticodohfokgjfaaDoorZPTold
set_option linter.unusedVariables false
set_option linter.unusedSimpArgs false
namespace Go.Proofs.YticodohfokgjfaaDoor
open Go Go.Fx
theorem blown_keep {q : Coal_book} : ∀ {r : Nat} {t u : Coal_truth} {d c : Int}, u ∈ blown q r t d c → u.collier_ = t.collier_ ∧ u.eats_ = t.eats_
  | 0, t, u, d, c, h => by obtain rfl := List.mem_singleton.1 h; exact ⟨rfl, rfl⟩
  | r + 1, t, u, d, c, h => by
    obtain ⟨w, cost, _, _, _, h⟩ := blown_step h
    have := blown_keep h
    exact ⟨this.1, this.2⟩
theorem blown_congr {q q' : Coal_book} (h1 : q.CoalBook.Days = q'.CoalBook.Days) (h2 : q.CoalBook.Brings = q'.CoalBook.Brings) (h3 : q.CoalBook.Dips = q'.CoalBook.Dips) (h4 : q.costs_ = q'.costs_) : ∀ (r : Nat) (t : Coal_truth) (d c : Int), blown q r t d c = blown q' r t d c := by
  have he : eng q = eng q' := by funext d e; unfold eng; rw [h1]
  have hr : rightB q = rightB q' := by funext d e; unfold rightB; rw [h3]
  intro r
  induction r with
  | zero => intro t d c; rfl
  | succ r ih => intro t d c; simp only [blown, he, hr, h2, h4, ih]
end Go.Proofs.YticodohfokgjfaaDoor

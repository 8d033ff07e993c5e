/- A book with fewer truths. -/
import Derived.Test.YticodohfokgjfaaDoorZPShift
set_option linter.unusedVariables false
set_option linter.unusedSimpArgs false
namespace Go.Proofs.YticodohfokgjfaaDoor
open Go Go.Fx
theorem blown_mk {q : Coal_book} {r w : Nat} {t u : Coal_truth} {d c cost : Int} (hw : w < 3) (hl : lookL q.costs_ (Coal_gust.mk d (w : Int)) = some cost) (hr : rightB q d ((bif t.collier_ == d then c + q.CoalBook.Brings else c) - eng q d t.eats_ - cost) = true)
    (hu : u ∈ blown q r (Coal_truth.mk t.eats_ t.collier_ (aset t.winds_ 6 d (w : Int)) (aset t.coal_ 6 d ((bif t.collier_ == d then c + q.CoalBook.Brings else c) - eng q d t.eats_ - cost))) (d + 1) ((bif t.collier_ == d then c + q.CoalBook.Brings else c) - eng q d t.eats_ - cost)) : u ∈ blown q (r + 1) t d c := by
  rw [blown]
  refine List.mem_flatMap.2 ⟨w, List.mem_range'_1.2 (by omega), ?_⟩
  rw [hl]
  simp only [blown.optL]
  rw [hr, cond_true]
  exact hu
structure Less (L' L : List Coal_truth) : Prop where
  ne : L' ≠ []
  sub : ∀ t ∈ L', t ∈ L
theorem Less.order {L' L : List Coal_truth} (h : Less L' L) {len : Nat} {o p : Int} (O : OrderOf len L o) (P : OrderOf len L' p) : p ≤ o := by
  have := O.n0
  rcases P.is with e | ⟨k, hk, t, ht, e⟩
  · omega
  · have := O.ge k hk t (h.sub t ht); omega
theorem not_small : ∀ a b : Fin 8, (∀ i : Fin 3, a.val.testBit i.val = true → b.val.testBit i.val = true) → andNotI (a.val : Int) (b.val : Int) = 0 := by decide +kernel
def withB (b : CoalBook) (x : CoalDip) : CoalBook := CoalBook.mk b.Heap b.Eats b.Extra b.Days b.Collier b.Brings (b.Dips ++ [x])
theorem with_eq {b : CoalBook} (V : Val b) (x : CoalDip) : law_with b x = some (withB b x) := by
  have hp := V.pn
  unfold law_with
  cases h : b.Dips with
  | nil =>
    unfold withB
    rw [h, show List.isEmpty ([] : List CoalDip) = true from rfl, cond_true, need_of (by unfold fitsL; simp)]
    rfl
  | cons y l =>
    rw [h] at hp
    simp only [List.length_cons] at hp
    unfold withB
    rw [h, show List.isEmpty (y :: l) = false from rfl, cond_false, need_of (by unfold fitsL; simp; omega), need_of (by unfold fitsL; simp; omega)]
end Go.Proofs.YticodohfokgjfaaDoor

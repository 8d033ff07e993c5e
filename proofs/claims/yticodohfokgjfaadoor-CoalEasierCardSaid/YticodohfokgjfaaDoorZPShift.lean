/- Orders, eating and winds; a heap that is so much higher. -/
import Derived.Test.YticodohfokgjfaaDoorZPLate
set_option linter.unusedVariables false
set_option linter.unusedSimpArgs false
namespace Go.Proofs.YticodohfokgjfaaDoor
open Go Go.Fx
structure OrderOf (len : Nat) (L : List Coal_truth) (n : Int) : Prop where
  n0 : 0 ≤ n
  hi : n ≤ 100000
  ge : ∀ k, k < len → ∀ t ∈ L, -coalAt k t ≤ n
  is : n = 0 ∨ ∃ k, k < len ∧ ∃ t ∈ L, n = -coalAt k t
theorem order_law {b : CoalBook} (V : Val b) (A : Arg b) : ∃ n, coal_Order b = some (bif (TT b).isEmpty then (0, 62) else (n, 0)) ∧ (TT b ≠ [] → OrderOf b.Days.length (TT b) n) := by
  cases h : (TT b).isEmpty with
  | true => exact ⟨0, order_nil V A (List.isEmpty_iff.1 h), fun h2 => (h2 (List.isEmpty_iff.1 h)).elim⟩
  | false =>
    have hne : TT b ≠ [] := fun h2 => by rw [h2] at h; cases h
    have hdn := V.dn
    have Q := opn_op V A []
    unfold coal_Order
    rw [asked_eq V A, Option.bind_some, h]
    simp only [cond_false, bne_self_eq_false]
    have key : ∀ (e k m : Nat) (z : Int), k + e = b.Days.length → e < m → OrderOf k (TT b) z → ∃ n, loopF (coal_Order_l1 b (opn b [], 0)) m (z, (k : Int)) = some (n, 0) ∧ OrderOf b.Days.length (TT b) n := by
      intro e
      induction e with
      | zero =>
        intro k m z h1 h2 h3
        obtain ⟨m, rfl⟩ : ∃ q, m = q + 1 := ⟨m - 1, by omega⟩
        refine ⟨z, ?_, by rw [← h1, Nat.add_zero]; exact h3⟩
        show coal_Order_l1 b (opn b [], 0) _ _ = _
        unfold coal_Order_l1
        simp only
        rw [decide_eq_false (by omega), cond_false]
      | succ e ih =>
        intro k m z h1 h2 h3
        obtain ⟨m, rfl⟩ : ∃ q, m = q + 1 := ⟨m - 1, by omega⟩
        show ∃ n, coal_Order_l1 b (opn b [], 0) (loopF (coal_Order_l1 b (opn b [], 0)) m) _ = some (n, 0) ∧ _
        obtain ⟨s, hs, S⟩ := coal_of Q (d := k) (show k < b.Days.length by omega)
        obtain ⟨u, hu, eu⟩ := S.low hne
        have bu := (truths_tru Q hu).1.co k (show k < b.Days.length by omega)
        obtain ⟨n, hn, hn2⟩ := ih (k + 1) m (if -s.Low > z then -s.Low else z) (by omega) (by omega) ⟨by split <;> have := h3.n0 <;> omega, by split <;> have := h3.hi <;> omega, fun j hj t ht => by
          by_cases hjk : j = k
          · subst hjk; have := S.le t ht; split <;> omega
          · have := h3.ge j (by omega) t ht; split <;> omega, by
          split
          · exact .inr ⟨k, by omega, u, hu, by omega⟩
          · rcases h3.is with h | ⟨j, hj, t, ht, h⟩
            · exact .inl h
            · exact .inr ⟨j, by omega, t, ht, h⟩⟩
        refine ⟨n, ?_, hn2⟩
        generalize loopF (coal_Order_l1 b (opn b [], 0)) m = rec at hn
        unfold coal_Order_l1 coal_coal
        simp only
        rw [decide_eq_true (by omega), cond_true, Option.bind_some, hs, Option.bind_some, wrI (x := -s.Low) (by omega) (by omega), wrI (by omega) (by omega), show (k : Int) + 1 = ((k + 1 : Nat) : Int) by omega]
        exact hn
    obtain ⟨n, hn, hn2⟩ := key b.Days.length 0 big 0 (by omega) (by rw [big_eq]; omega) ⟨Int.le_refl _, by omega, fun k hk => by omega, .inl rfl⟩
    exact ⟨n, hn, fun _ => hn2⟩
/-! a heap that is higher -/
def shT (n : Int) (m : Nat) (t : Coal_truth) : Coal_truth := Coal_truth.mk t.eats_ t.collier_ t.winds_ ((List.range 6).map fun k => if k < m then t.coal_.getD k 0 + n else t.coal_.getD k 0)
end Go.Proofs.YticodohfokgjfaaDoor

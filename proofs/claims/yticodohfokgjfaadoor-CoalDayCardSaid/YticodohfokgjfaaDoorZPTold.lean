/- What is told of a book, by all of its truths. -/
import Derived.Test.YticodohfokgjfaaDoorZPOpen
import Derived.KernelRfl
set_option linter.unusedVariables false
set_option linter.unusedSimpArgs false
namespace Go.Proofs.YticodohfokgjfaaDoor
open Go Go.Fx
theorem stoked_eq : law_stoked = some true := by kernel_rfl
/-- a truth as it is built -/
structure Tru (q : Coal_book) (t : Coal_truth) : Prop where
  el : t.eats_.length = 2
  wl : t.winds_.length = 6
  cl : t.coal_.length = 6
  wi : ∀ k, k < q.CoalBook.Days.length → 0 ≤ t.winds_.getD k 0 ∧ t.winds_.getD k 0 ≤ 2
  co : ∀ k, k < q.CoalBook.Days.length → -100000 ≤ coalAt k t ∧ coalAt k t ≤ 100000
abbrev TT (b : CoalBook) : List Coal_truth := truths (opn b [])
theorem asked_eq {b : CoalBook} (V : Val b) (A : Arg b) : coal_asked b true = some (opn b [], bif (TT b).isEmpty then 62 else 0) := by
  unfold coal_asked
  rw [check_eq b A, val_iff.2 V, Option.bind_some, opened_eq V A [] (by simp), Option.bind_some]
  rw [show (Coal_book.mk (CoalBook.mk (opn b []).CoalBook.Heap (opn b []).CoalBook.Eats (opn b []).CoalBook.Extra b.Days (opn b []).CoalBook.Collier (opn b []).CoalBook.Brings (opn b []).CoalBook.Dips) (opn b []).costs_) = opn b [] from rfl]
  rw [isTrue_eq _ (opn_op V A []), Option.bind_some]
  cases (TT b).isEmpty <;> rfl
theorem dayIn {b : CoalBook} {d : Nat} (hd : d < b.Days.length) : inB (d : Int) 0 ((b.Days.length : Int) - 1) = true := inB_iff.2 (by omega)
theorem coal_of {q : Coal_book} (Q : Op q) {d : Nat} (hd : d < q.CoalBook.Days.length) : ∃ s, coal_book_span q (Coal_number.mk fun y => coal_coal_1 y (d : Int)) = some s ∧ SpanOf (coalAt d) (truths q) s :=
  span_ex q Q _ (coalAt d) fun t ht => by
    have := Q.dn
    show coal_coal_1 t (d : Int) = _
    unfold coal_coal_1
    rw [need_of (by simp [inI]; omega)]
    rfl
theorem heap_law {b : CoalBook} (V : Val b) (A : Arg b) {d : Nat} (hd : d < b.Days.length) : ∃ s, coal_Heap b d = some (s, bif (TT b).isEmpty then 62 else 0) ∧ SpanOf (coalAt d) (TT b) s := by
  obtain ⟨s, hs, S⟩ := coal_of (opn_op V A []) (d := d) hd
  refine ⟨s, ?_, S⟩
  unfold coal_Heap coal_coal
  rw [isDay_eq b A, Option.bind_some, dayIn hd, asked_eq V A, Option.bind_some]
  cases h : (TT b).isEmpty with
  | true =>
    have := S.nil (List.isEmpty_iff.1 h)
    subst this
    rfl
  | false =>
    simp only [cond_false, bne_self_eq_false, Option.bind_some, hs]
def kind (L : List Coal_truth) (d : Nat) : Int := (bif L.any (lastB d) then 1 else 0) + (bif L.all (lastB d) then 1 else 0)
theorem some_eq {q : Coal_book} (Q : Op q) {d : Nat} (hd : d < 6) : coal_book_some q d = some ((truths q).any (lastB d)) := by
  unfold coal_book_some coal_book_truths
  rw [Option.bind_some, truths_eq q Q, foldY_find (coal_book_some_r1 (d : Int)) (lastB d) false true _ (fun t ht => by
    unfold coal_book_some_r1
    rw [lasts_eq t d hd, Option.bind_some]
    cases lastB d t <;> rfl)]
  cases (truths q).any (lastB d) <;> rfl
theorem each_eq {q : Coal_book} (Q : Op q) {d : Nat} (hd : d < 6) : coal_book_each q d = some ((truths q).all (lastB d)) := by
  unfold coal_book_each coal_book_truths
  rw [Option.bind_some, truths_eq q Q, foldY_find (coal_book_each_r1 (d : Int)) (fun t => !lastB d t) () () _ (fun t ht => by
    unfold coal_book_each_r1
    rw [lasts_eq t d hd, Option.bind_some]
    cases lastB d t <;> rfl), List.all_eq_not_any_not]
  cases (truths q).any fun t => !lastB d t <;> rfl
theorem lasts_law {b : CoalBook} (V : Val b) (A : Arg b) {d : Nat} (hd : d < b.Days.length) : coal_Lasts b d = some (bif (TT b).isEmpty then (0, 62) else (kind (TT b) d, 0)) := by
  unfold coal_Lasts
  have hdn := V.dn
  rw [isDay_eq b A, Option.bind_some, dayIn hd, asked_eq V A, Option.bind_some]
  cases h : (TT b).isEmpty with
  | true => rfl
  | false =>
    simp only [cond_false, bne_self_eq_false]
    refine loop_fold0 (fun k => ((bif decide (1 ≤ k) && (TT b).any (lastB d) then 1 else 0) + (bif decide (2 ≤ k) && (TT b).all (lastB d) then 1 else 0), (k : Int))) 2 (fun rec k hk => ?_) (fun rec => ?_) (by rw [big_eq]; omega) rfl
    · unfold coal_Lasts_l1
      match k, hk with
      | 0, _ =>
        simp only [show decide (((0 : Nat) : Int) < 2) = true by decide, cond_true, show inI ((0 : Nat) : Int) 2 = true by decide, need_true, show (((0 : Nat) : Int) == 0) = true by decide, some_eq (opn_op V A []) (show d < 6 by omega), Option.bind_some]
        cases (TT b).any (lastB d) <;> rfl
      | 1, _ =>
        simp only [show decide (((1 : Nat) : Int) < 2) = true by decide, cond_true, show inI ((1 : Nat) : Int) 2 = true by decide, need_true, show (((1 : Nat) : Int) == 0) = false by decide, cond_false, each_eq (opn_op V A []) (show d < 6 by omega), Option.bind_some]
        cases (TT b).any (lastB d) <;> cases (TT b).all (lastB d) <;> rfl
    · unfold coal_Lasts_l1
      simp only [show decide (((2 : Nat) : Int) < 2) = false by decide, cond_false, show decide (1 ≤ 2) = true by decide, show decide (2 ≤ 2) = true by decide, Bool.true_and]
      rfl
theorem kind_two {L : List Coal_truth} {d : Nat} (h : L ≠ []) : (kind L d == 2) = L.all (lastB d) := by
  unfold kind
  cases ha : L.all (lastB d) with
  | false => cases L.any (lastB d) <;> rfl
  | true =>
    have : L.any (lastB d) = true := by
      cases L with
      | nil => exact (h rfl).elim
      | cons t L => rw [List.all_cons, Bool.and_eq_true] at ha; rw [List.any_cons, ha.1]; rfl
    rw [this]; rfl
theorem day_law {b : CoalBook} (V : Val b) (A : Arg b) : ∃ r, coal_Day b = some r ∧ (TT b = [] → r = (0, 62)) ∧ (TT b ≠ [] → (∃ d : Nat, d < b.Days.length ∧ r = ((d : Int), 0) ∧ (∃ t ∈ TT b, coalAt d t < 0) ∧ ∀ k, k < d → ∀ t ∈ TT b, 0 ≤ coalAt k t) ∨ (r = (0, 4) ∧ ∀ k, k < b.Days.length → ∀ t ∈ TT b, 0 ≤ coalAt k t)) := by
  unfold coal_Day
  have hdn := V.dn
  rw [asked_eq V A, Option.bind_some]
  cases h : (TT b).isEmpty with
  | true => exact ⟨_, rfl, fun _ => rfl, fun h2 => (h2 (List.isEmpty_iff.1 h)).elim⟩
  | false =>
    have hne : TT b ≠ [] := fun h2 => by rw [h2] at h; cases h
    simp only [cond_false, bne_self_eq_false]
    have key : ∀ (e k m : Nat), k + e = b.Days.length → e < m → (∀ j, j < k → ∀ t ∈ TT b, 0 ≤ coalAt j t) → ∃ r, loopF (coal_Day_l1 b (opn b [], 0)) m (k : Int) = some r ∧ ((∃ d : Nat, d < b.Days.length ∧ r = ((d : Int), 0) ∧ (∃ t ∈ TT b, coalAt d t < 0) ∧ ∀ k, k < d → ∀ t ∈ TT b, 0 ≤ coalAt k t) ∨ (r = (0, 4) ∧ ∀ k, k < b.Days.length → ∀ t ∈ TT b, 0 ≤ coalAt k t)) := by
      intro e
      induction e with
      | zero =>
        intro k m h1 h2 h3
        obtain ⟨m, rfl⟩ : ∃ q, m = q + 1 := ⟨m - 1, by omega⟩
        refine ⟨(0, 4), ?_, .inr ⟨rfl, fun j hj => h3 j (by omega)⟩⟩
        show coal_Day_l1 b (opn b [], 0) _ (k : Int) = _
        unfold coal_Day_l1
        rw [decide_eq_false (by omega), cond_false]
      | succ e ih =>
        intro k m h1 h2 h3
        obtain ⟨m, rfl⟩ : ∃ q, m = q + 1 := ⟨m - 1, by omega⟩
        have ih2 := ih (k + 1) m (by omega) (by omega)
        show ∃ r, coal_Day_l1 b (opn b [], 0) (loopF (coal_Day_l1 b (opn b [], 0)) m) (k : Int) = some r ∧ _
        generalize loopF (coal_Day_l1 b (opn b [], 0)) m = rec at ih2
        obtain ⟨s, hs, S⟩ := coal_of (opn_op V A []) (d := k) (show k < b.Days.length by omega)
        unfold coal_Day_l1 coal_coal
        rw [decide_eq_true (by omega), cond_true]
        simp only [Option.bind_some, hs]
        by_cases hl : s.Low < 0
        · refine ⟨((k : Int), 0), by rw [decide_eq_true hl, cond_true], .inl ⟨k, by omega, rfl, ?_, h3⟩⟩
          obtain ⟨t, ht, e⟩ := S.low hne
          exact ⟨t, ht, by omega⟩
        · rw [decide_eq_false hl, cond_false, wrI (by omega) (by omega), show (k : Int) + 1 = ((k + 1 : Nat) : Int) by omega]
          refine ih2 fun j hj t ht => ?_
          by_cases hj2 : j = k
          · subst hj2; have := S.le t ht; omega
          · exact h3 j (by omega) t ht
    obtain ⟨r, hr, hr2⟩ := key b.Days.length 0 big (by omega) (by rw [big_eq]; omega) (fun j hj => by omega)
    exact ⟨r, hr, fun h2 => (hne h2).elim, fun _ => hr2⟩
theorem modN (a : Int) {n : Nat} (h : 0 < n) (h2 : n ≤ 1000) : ∃ r : Nat, B_Mod a n = some (r : Int) ∧ r < n := by
  obtain ⟨r, h1, h3, h4⟩ := mod_ok a n (by omega) (by omega)
  exact ⟨r.toNat, by rw [h1, Int.toNat_of_nonneg h3], by omega⟩
end Go.Proofs.YticodohfokgjfaaDoor

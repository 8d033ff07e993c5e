/- The last day on which the collier may come; books that differ by when it comes. -/
import Derived.Test.YticodohfokgjfaaDoorZPTold
set_option linter.unusedVariables false
set_option linter.unusedSimpArgs false
namespace Go.Proofs.YticodohfokgjfaaDoor
open Go Go.Fx
theorem blown_keep {q : Coal_book} : ∀ {r : Nat} {t u : Coal_truth} {d c : Int}, u ∈ blown q r t d c → u.collier_ = t.collier_ ∧ u.eats_ = t.eats_
  | 0, t, u, d, c, h => by obtain rfl := List.mem_singleton.1 h; exact ⟨rfl, rfl⟩
  | r + 1, t, u, d, c, h => by
    obtain ⟨w, cost, _, _, _, h⟩ := blown_step h
    have := blown_keep h
    exact ⟨this.1, this.2⟩
theorem blown_congr {q q' : Coal_book} (h1 : q.CoalBook.Days = q'.CoalBook.Days) (h2 : q.CoalBook.Brings = q'.CoalBook.Brings) (h3 : q.CoalBook.Dips = q'.CoalBook.Dips) (h4 : q.costs_ = q'.costs_) : ∀ (r : Nat) (t : Coal_truth) (d c : Int), blown q r t d c = blown q' r t d c := by
  have he : eng q = eng q' := by funext d e; unfold eng; rw [h1]
  have hr : rightB q = rightB q' := by funext d e; unfold rightB; rw [h3]
  intro r
  induction r with
  | zero => intro t d c; rfl
  | succ r ih => intro t d c; simp only [blown, he, hr, h2, h4, ih]
abbrev colB (b : CoalBook) (s : Span) : CoalBook := CoalBook.mk b.Heap b.Eats b.Extra b.Days s b.Brings b.Dips
theorem col_mem {b : CoalBook} {s : Span} {t : Coal_truth} (h : t ∈ TT (colB b s)) (hs : ∀ n ∈ rng s, n ∈ rng b.Collier) : t ∈ TT b ∧ t.collier_ ∈ rng s := by
  obtain ⟨hp, h1, o, h2, p, h3, c, h4, h⟩ := truth_mem.1 h
  have e := (blown_keep h).1
  refine ⟨truth_mem.2 ⟨hp, h1, o, h2, p, h3, c, hs c h4, ?_⟩, ?_⟩
  · rw [blown_congr (q := opn (colB b s) []) (q' := opn b []) rfl rfl rfl rfl] at h; exact h
  · rw [e]; exact h4
theorem mem_col {b : CoalBook} {s : Span} {t : Coal_truth} (h : t ∈ TT b) (hs : t.collier_ ∈ rng s) : t ∈ TT (colB b s) := by
  obtain ⟨hp, h1, o, h2, p, h3, c, h4, h⟩ := truth_mem.1 h
  have e := (blown_keep h).1
  refine truth_mem.2 ⟨hp, h1, o, h2, p, h3, c, ?_, ?_⟩
  · rw [e] at hs; exact hs
  · rw [blown_congr (q := opn b []) (q' := opn (colB b s) []) rfl rfl rfl rfl] at h; exact h
theorem col_val {b : CoalBook} (V : Val b) {s : Span} (h1 : b.Collier.Low ≤ s.Low) (h2 : s.Low ≤ s.High) (h3 : s.High ≤ b.Collier.High) : Val (colB b s) := by
  have := V.co
  unfold spB at this
  simp only [Bool.and_eq_true, decide_eq_true_eq] at this
  refine ⟨V.hp, V.dn, ?_, V.br, V.pn, V.ea, V.ex, V.da, V.di⟩
  unfold spB
  simp only [Bool.and_eq_true, decide_eq_true_eq]
  exact ⟨⟨⟨by omega, h2⟩, by show s.High ≤ (b.Days.length : Int); omega⟩, by omega⟩
theorem co_iff {b : CoalBook} (V : Val b) : 0 ≤ b.Collier.Low ∧ b.Collier.Low ≤ b.Collier.High ∧ b.Collier.High ≤ 6 := by
  have := V.co
  have := V.dn
  unfold spB at *
  simp only [Bool.and_eq_true, decide_eq_true_eq] at *
  omega
def lateG (d : Nat) (m : Int) (t : Coal_truth) : Int := bif lastB d t then m else if t.collier_ < m then t.collier_ else m
theorem lateG_fold (d : Nat) : ∀ (L : List Coal_truth) (m : Int), (L.foldl (lateG d) m = m ∨ ∃ t ∈ L, lastB d t = false ∧ t.collier_ = L.foldl (lateG d) m) ∧ L.foldl (lateG d) m ≤ m ∧ ∀ t ∈ L, lastB d t = false → L.foldl (lateG d) m ≤ t.collier_
  | [], m => ⟨.inl rfl, Int.le_refl _, fun t h => by cases h⟩
  | x :: L, m => by
    obtain ⟨h1, h2, h3⟩ := lateG_fold d L (lateG d m x)
    have hg : lateG d m x ≤ m ∧ (lateG d m x = m ∨ lastB d x = false ∧ x.collier_ = lateG d m x) ∧ (lastB d x = false → lateG d m x ≤ x.collier_) := by
      unfold lateG
      cases hl : lastB d x with
      | true => simp
      | false =>
        rw [cond_false]
        refine ⟨by split <;> omega, ?_, fun _ => by split <;> omega⟩
        split
        · exact .inr ⟨rfl, rfl⟩
        · exact .inl rfl
    rw [List.foldl_cons]
    refine ⟨?_, by omega, fun t ht hl => ?_⟩
    · rcases h1 with h1 | ⟨t, ht, h1⟩
      · rcases hg.2.1 with h | ⟨ha, hb⟩
        · exact .inl (by omega)
        · exact .inr ⟨x, List.mem_cons_self .., ha, by omega⟩
      · exact .inr ⟨t, List.mem_cons_of_mem _ ht, h1⟩
    · rcases List.mem_cons.1 ht with rfl | ht
      · have := hg.2.2 hl; omega
      · exact h3 t ht hl
theorem late_law {b : CoalBook} (V : Val b) (A : Arg b) : ∃ r, coal_Late b = some r ∧ (TT b = [] → r = (0, 62)) ∧ (TT b ≠ [] → ∃ m : Int, r = (bif m == b.Collier.Low then (0, 4) else (m - 1, 0)) ∧ b.Collier.Low ≤ m ∧ m ≤ b.Collier.High + 1 ∧ (m = b.Collier.High + 1 ∨ ∃ t ∈ TT b, lastB (b.Days.length - 1) t = false ∧ t.collier_ = m) ∧ ∀ t ∈ TT b, lastB (b.Days.length - 1) t = false → m ≤ t.collier_) := by
  unfold coal_Late coal_book_truths
  have hdn := V.dn
  have hc := co_iff V
  rw [asked_eq V A, Option.bind_some]
  cases h : (TT b).isEmpty with
  | true => exact ⟨_, rfl, fun _ => rfl, fun h2 => (h2 (List.isEmpty_iff.1 h)).elim⟩
  | false =>
    have hne : TT b ≠ [] := fun h2 => by rw [h2] at h; cases h
    simp only [cond_false, bne_self_eq_false, Option.bind_some]
    rw [truths_eq _ (opn_op V A []), wrI (x := b.Collier.High + 1) (by omega) (by omega), foldY_all (coal_Late_r2 b) (lateG (b.Days.length - 1)) _ (fun t ht z => by
      unfold coal_Late_r2 lateG
      rw [wrI (by omega) (by omega), show (b.Days.length : Int) - 1 = ((b.Days.length - 1 : Nat) : Int) by omega, lasts_eq t _ (by omega), Option.bind_some]
      cases lastB (b.Days.length - 1) t <;> rfl)]
    obtain ⟨h1, h2, h3⟩ := lateG_fold (b.Days.length - 1) (TT b) (b.Collier.High + 1)
    simp only [Option.map_some, Option.bind_some]
    generalize List.foldl (lateG (b.Days.length - 1)) (b.Collier.High + 1) (TT b) = m at *
    have hlow : b.Collier.Low ≤ m := by
      rcases h1 with h1 | ⟨t, ht, _, e⟩
      · omega
      · have := rng_mem.1 (truths_tru (opn_op V A []) ht).2.2
        have : b.Collier.Low ≤ t.collier_ := this.1
        omega
    refine ⟨_, ?_, fun h2 => (hne h2).elim, fun _ => ⟨m, rfl, hlow, h2, h1, h3⟩⟩
    rw [wrI (by omega) (by omega)]
    cases (m == b.Collier.Low) <;> rfl
theorem contains_eq (s : Span) (n : Int) : B_Contains s n = some (inB n s.Low s.High) := by
  unfold B_Contains
  rw [inside_eq]; rfl
theorem order_nil {b : CoalBook} (V : Val b) (A : Arg b) (h : TT b = []) : coal_Order b = some (0, 62) := by
  unfold coal_Order
  rw [asked_eq V A, Option.bind_some, h]
  rfl
theorem kind_lt {L : List Coal_truth} {d : Nat} {t : Coal_truth} (ht : t ∈ L) (hl : lastB d t = false) : kind L d < 2 := by
  unfold kind
  have : L.all (lastB d) = false := by
    cases h : L.all (lastB d) with
    | false => rfl
    | true => have := List.all_eq_true.1 h t ht; rw [hl] at this; cases this
  rw [this]
  cases L.any (lastB d) <;> decide
end Go.Proofs.YticodohfokgjfaaDoor

/- A book with fewer truths. -/
import Derived.Test.YticodohfokgjfaaDoorZPShift
set_option linter.unusedVariables false
set_option linter.unusedSimpArgs false
namespace Go.Proofs.YticodohfokgjfaaDoor
open Go Go.Fx
theorem blown_mk {q : Coal_book} {r w : Nat} {t u : Coal_truth} {d c cost : Int} (hw : w < 3) (hl : lookL q.costs_ (Coal_gust.mk d (w : Int)) = some cost) (hr : rightB q d ((bif t.collier_ == d then c + q.CoalBook.Brings else c) - eng q d t.eats_ - cost) = true)
    (hu : u ∈ blown q r (Coal_truth.mk t.eats_ t.collier_ (aset t.winds_ 6 d (w : Int)) (aset t.coal_ 6 d ((bif t.collier_ == d then c + q.CoalBook.Brings else c) - eng q d t.eats_ - cost))) (d + 1) ((bif t.collier_ == d then c + q.CoalBook.Brings else c) - eng q d t.eats_ - cost)) : u ∈ blown q (r + 1) t d c := by
  rw [blown]
  refine List.mem_flatMap.2 ⟨w, List.mem_range'_1.2 (by omega), ?_⟩
  rw [hl]
  simp only [blown.optL]
  rw [hr, cond_true]
  exact hu
theorem blown_sub {q q' : Coal_book} (h1 : q.CoalBook.Days = q'.CoalBook.Days) (h2 : q.CoalBook.Brings = q'.CoalBook.Brings) (h3 : ∀ d n, rightB q' d n = true → rightB q d n = true) (h4 : q.costs_ = q'.costs_) : ∀ (r : Nat) (t u : Coal_truth) (d c : Int), u ∈ blown q' r t d c → u ∈ blown q r t d c := by
  have he : eng q' = eng q := by funext d e; unfold eng; rw [h1]
  intro r
  induction r with
  | zero => intro t u d c h; exact h
  | succ r ih =>
    intro t u d c h
    obtain ⟨w, cost, hw, hl, hr, hu⟩ := blown_step h
    rw [he, ← h2] at hr hu
    exact blown_mk hw (by rw [h4]; exact hl) (h3 _ _ hr) (ih _ _ _ _ hu)
structure Less (L' L : List Coal_truth) : Prop where
  ne : L' ≠ []
  sub : ∀ t ∈ L', t ∈ L
theorem Less.ne2 {L' L : List Coal_truth} (h : Less L' L) : L ≠ [] := by
  obtain ⟨t, ht⟩ := List.exists_mem_of_ne_nil _ h.ne
  exact List.ne_nil_of_mem (h.sub t ht)
theorem Less.span {L' L : List Coal_truth} (h : Less L' L) {f : Coal_truth → Int} {s t : Span} (S : SpanOf f L s) (T : SpanOf f L' t) : s.Low ≤ t.Low ∧ t.High ≤ s.High := by
  obtain ⟨x, hx, e1⟩ := T.low h.ne
  obtain ⟨y, hy, e2⟩ := T.high h.ne
  have := S.le x (h.sub x hx)
  have := S.ge y (h.sub y hy)
  omega
theorem Less.kind {L' L : List Coal_truth} (h : Less L' L) (d : Nat) : kind L d = 1 ∨ kind L' d = kind L d := by
  unfold Proofs.YticodohfokgjfaaDoor.kind
  obtain ⟨x, hx⟩ := List.exists_mem_of_ne_nil _ h.ne
  cases ha : L.any (lastB d) with
  | false =>
    have n1 : ∀ t ∈ L, lastB d t = false := fun t ht => by
      have := List.any_eq_false.1 ha t ht
      simpa using this
    have e1 : L'.any (lastB d) = false := List.any_eq_false.2 fun t ht => by simp [n1 t (h.sub t ht)]
    have e2 : L'.all (lastB d) = false := by
      cases hb : L'.all (lastB d) with
      | false => rfl
      | true => have := List.all_eq_true.1 hb x hx; rw [n1 x (h.sub x hx)] at this; cases this
    have e3 : L.all (lastB d) = false := by
      cases hb : L.all (lastB d) with
      | false => rfl
      | true => have := List.all_eq_true.1 hb x (h.sub x hx); rw [n1 x (h.sub x hx)] at this; cases this
    rw [e1, e2, e3]; exact .inr rfl
  | true =>
    cases hb : L.all (lastB d) with
    | false => exact .inl rfl
    | true =>
      have e2 : L'.all (lastB d) = true := List.all_eq_true.2 fun t ht => List.all_eq_true.1 hb t (h.sub t ht)
      have e1 : L'.any (lastB d) = true := List.any_eq_true.2 ⟨x, hx, List.all_eq_true.1 e2 x hx⟩
      rw [e1, e2]; exact .inr rfl
theorem Less.order {L' L : List Coal_truth} (h : Less L' L) {len : Nat} {o p : Int} (O : OrderOf len L o) (P : OrderOf len L' p) : p ≤ o := by
  have := O.n0
  rcases P.is with e | ⟨k, hk, t, ht, e⟩
  · omega
  · have := O.ge k hk t (h.sub t ht); omega
theorem not_small : ∀ a b : Fin 8, (∀ i : Fin 3, a.val.testBit i.val = true → b.val.testBit i.val = true) → andNotI (a.val : Int) (b.val : Int) = 0 := by decide +kernel
theorem Less.wind {L' L : List Coal_truth} (h : Less L' L) {d : Nat} (hw : ∀ t ∈ L, windAt d t < 3) : andNotI (windSet d L' : Int) (windSet d L : Int) = 0 ∧ ((windSet d L' : Nat) : Int) ≠ 0 := by
  have w1 := windSet_lt (q := default) L 0 (by omega) hw
  have w2 := windSet_lt (q := default) L' 0 (by omega) fun t ht => hw t (h.sub t ht)
  constructor
  · refine not_small ⟨windSet d L', w2⟩ ⟨windSet d L, w1⟩ fun i hi => ?_
    rcases (windSet_bit L' 0 i.val).1 hi with h0 | ⟨t, ht, e⟩
    · simp at h0
    · exact (windSet_bit L 0 i.val).2 (.inr ⟨t, h.sub t ht, e⟩)
  · obtain ⟨x, hx⟩ := List.exists_mem_of_ne_nil _ h.ne
    have := (windSet_bit L' 0 (windAt d x)).2 (.inr ⟨x, hx, rfl⟩)
    intro h0
    have h0 : windSet d L' = 0 := by omega
    unfold windSet at h0
    rw [h0] at this
    simp at this
def withB (b : CoalBook) (x : CoalDip) : CoalBook := CoalBook.mk b.Heap b.Eats b.Extra b.Days b.Collier b.Brings (b.Dips ++ [x])
theorem with_eq {b : CoalBook} (V : Val b) (x : CoalDip) : law_with b x = some (withB b x) := by
  have hp := V.pn
  unfold law_with
  cases h : b.Dips with
  | nil =>
    unfold withB
    rw [h, show List.isEmpty ([] : List CoalDip) = true from rfl, cond_true, need_of (by unfold fitsL; simp)]
    rfl
  | cons y l =>
    rw [h] at hp
    simp only [List.length_cons] at hp
    unfold withB
    rw [h, show List.isEmpty (y :: l) = false from rfl, cond_false, need_of (by unfold fitsL; simp; omega), need_of (by unfold fitsL; simp; omega)]
theorem with_less {b : CoalBook} {x : CoalDip} {t : Coal_truth} (h : t ∈ TT (withB b x)) : t ∈ TT b := by
  obtain ⟨hp, h1, o, h2, p, h3, c, h4, h⟩ := truth_mem.1 h
  refine truth_mem.2 ⟨hp, h1, o, h2, p, h3, c, h4, ?_⟩
  refine blown_sub (q := opn b []) (q' := opn (withB b x) []) rfl rfl (fun d n hr => ?_) rfl _ _ _ _ _ h
  unfold rightB at *
  refine List.all_eq_true.2 fun y hy => List.all_eq_true.1 hr y ?_
  have e : ∀ l : List CoalDip, keepD l [] l.length = l := fun l => by rw [keepD_all0 _ (Nat.le_refl _), List.take_length]
  have hy : y ∈ keepD b.Dips [] b.Dips.length := hy
  show y ∈ keepD (b.Dips ++ [x]) [] (b.Dips ++ [x]).length
  rw [e] at hy ⊢
  exact List.mem_append_left _ hy
where keepD_all0 {l : List CoalDip} : ∀ k, k ≤ l.length → keepD l [] k = l.take k
  | 0, _ => rfl
  | k + 1, h => by
    unfold keepD
    rw [show ([] : List Int).contains (k : Int) = false from rfl, cond_false, keepD_all0 k (by omega), ← List.take_append_getElem (show k < l.length by omega), List.getElem?_eq_getElem (show k < l.length by omega)]
    rfl
theorem heap_bad {b : CoalBook} (A : Arg b) (h : valB b = false) (d : Int) : coal_Heap b d = some (⟨0, 0⟩, 60) := by
  unfold coal_Heap coal_asked
  rw [isDay_eq b A, Option.bind_some, check_eq b A, h, Option.bind_some]
  rfl
end Go.Proofs.YticodohfokgjfaaDoor

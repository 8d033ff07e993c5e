/- A book in the calculation, and what is asked of all truths. -/
import Derived.Test.YticodohfokgjfaaDoorZPBlown
set_option linter.unusedVariables false
set_option linter.unusedSimpArgs false
namespace Go.Proofs.YticodohfokgjfaaDoor
open Go Go.Fx
def keepD (l : List CoalDip) (but : List Int) : Nat → List CoalDip
  | 0 => []
  | k + 1 => bif but.contains (k : Int) then keepD l but k else keepD l but k ++ (l[k]?).toList
def costW (x : CoalDay) (ex : List Int) (d : Int) (m : List (Coal_gust × Int)) : Nat → List (Coal_gust × Int)
  | 0 => m
  | k + 1 => bif (andI (shrI x.Winds (k : Int)) 1) == 1 then putL (costW x ex d m k) (Coal_gust.mk d (k : Int)) (wr (x.Crosses * aget ex (k : Int))) else costW x ex d m k
def costD (ds : List CoalDay) (ex : List Int) : Nat → List (Coal_gust × Int)
  | 0 => []
  | k + 1 => match ds[k]? with | some x => costW x ex (k : Int) (costD ds ex k) 3 | none => costD ds ex k
def opn (b : CoalBook) (but : List Int) : Coal_book := Coal_book.mk (CoalBook.mk b.Heap b.Eats b.Extra b.Days b.Collier b.Brings (keepD b.Dips but b.Dips.length)) (costD b.Days b.Extra b.Days.length)
theorem keepD_len (l : List CoalDip) (but : List Int) : ∀ k, (keepD l but k).length ≤ k
  | 0 => Nat.le_refl 0
  | k + 1 => by
    have := keepD_len l but k
    unfold keepD
    cases but.contains (k : Int) with
    | true => rw [cond_true]; omega
    | false =>
      rw [cond_false, List.length_append]
      have : (l[k]?).toList.length ≤ 1 := by cases l[k]? <;> simp
      omega
theorem keepD_mem {l : List CoalDip} {but : List Int} {x : CoalDip} : ∀ {k}, x ∈ keepD l but k → x ∈ l
  | 0, h => by cases h
  | k + 1, h => by
    unfold keepD at h
    cases hc : but.contains (k : Int) with
    | true => rw [hc, cond_true] at h; exact keepD_mem h
    | false =>
      rw [hc, cond_false] at h
      rcases List.mem_append.1 h with h | h
      · exact keepD_mem h
      · cases hk : l[k]? with
        | none => rw [hk] at h; cases h
        | some y =>
          rw [hk] at h
          obtain rfl := List.mem_singleton.1 h
          exact List.mem_of_getElem? hk
theorem putL_mem {m : List (Coal_gust × Int)} {g : Coal_gust} {v : Int} {x : Coal_gust × Int} (h : x ∈ putL m g v) : x = (g, v) ∨ x ∈ m := by
  unfold putL at h
  split at h
  · rcases List.mem_or_eq_of_mem_set h with h | h
    · exact .inr h
    · exact .inl h
  · rcases List.mem_append.1 h with h | h
    · exact .inr h
    · exact .inl (List.mem_singleton.1 h)
theorem costW_bd {x : CoalDay} {ex : List Int} {d : Int} {m : List (Coal_gust × Int)} (hx : 0 ≤ x.Crosses ∧ x.Crosses ≤ 9) (he : ∀ y ∈ ex, 0 ≤ y ∧ y ≤ 9) (hm : ∀ p ∈ m, 0 ≤ p.2 ∧ p.2 ≤ 81) : ∀ k, ∀ p ∈ costW x ex d m k, 0 ≤ p.2 ∧ p.2 ≤ 81
  | 0 => hm
  | k + 1 => by
    intro p hp
    unfold costW at hp
    cases hc : (andI (shrI x.Winds (k : Int)) 1) == 1 with
    | false => rw [hc, cond_false] at hp; exact costW_bd hx he hm k p hp
    | true =>
      rw [hc, cond_true] at hp
      rcases putL_mem hp with rfl | hp
      · have h1 : 0 ≤ aget ex (k : Int) ∧ aget ex (k : Int) ≤ 9 := by
          unfold aget
          rw [List.getD_eq_getElem?_getD]
          cases hk : ex[((k : Int)).toNat]? with
          | none => simp
          | some y => exact he y (List.mem_of_getElem? hk)
        have m1 : 0 ≤ x.Crosses * aget ex (k : Int) := Int.mul_nonneg hx.1 h1.1
        have m3 : x.Crosses * aget ex (k : Int) ≤ 9 * 9 := Int.mul_le_mul hx.2 h1.2 h1.1 (by omega)
        simp only
        rw [wrI (by omega) (by omega)]
        omega
      · exact costW_bd hx he hm k p hp
theorem costD_bd {ds : List CoalDay} {ex : List Int} (hd : ∀ x ∈ ds, 0 ≤ x.Crosses ∧ x.Crosses ≤ 9) (he : ∀ y ∈ ex, 0 ≤ y ∧ y ≤ 9) : ∀ k, ∀ p ∈ costD ds ex k, 0 ≤ p.2 ∧ p.2 ≤ 81
  | 0 => fun p h => by cases h
  | k + 1 => by
    unfold costD
    cases hk : ds[k]? with
    | none => exact costD_bd hd he k
    | some x => exact costW_bd (hd x (List.mem_of_getElem? hk)) he (costD_bd hd he k) 3
theorem dayB_iff {x : CoalDay} (h : dayB x = true) : (0 ≤ x.Crosses ∧ x.Crosses ≤ 9) ∧ (1 ≤ x.Engines ∧ x.Engines ≤ 3) ∧ 1 ≤ x.Winds ∧ x.Winds ≤ 7 := by
  unfold dayB at h
  simp only [Bool.and_eq_true, inB_iff] at h
  exact ⟨h.1.1, h.1.2, h.2⟩
theorem dipB_iff {n : Nat} {x : CoalDip} (h : dipB n x = true) : (0 ≤ x.Day ∧ x.Day ≤ (n : Int) - 1) ∧ (0 ≤ x.Read ∧ x.Read ≤ 800) ∧ 0 ≤ x.Error ∧ x.Error ≤ 9 := by
  unfold dipB at h
  simp only [Bool.and_eq_true, inB_iff] at h
  exact ⟨h.1.1, h.1.2, h.2⟩
theorem opn_op {b : CoalBook} (V : Val b) (A : Arg b) (but : List Int) : Op (opn b but) where
  hp := sp_of V.hp (by omega)
  co := sp_of V.co (by have := V.dn; omega)
  el := A.el
  ea s hs := by
    have := V.ea s hs
    refine ⟨sp_of this (by omega), ?_⟩
    unfold spB at this
    simp only [Bool.and_eq_true, decide_eq_true_eq] at this
    exact this.1.2
  dn := V.dn.2
  da x hx := (dayB_iff (V.da x hx)).1
  br := V.br
  pn := by
    have h1 := keepD_len b.Dips but b.Dips.length
    have := V.pn
    show (keepD b.Dips but b.Dips.length).length ≤ 10
    omega
  di x hx := by
    obtain ⟨_, h1, h2⟩ := dipB_iff (V.di x (keepD_mem hx))
    omega
  cs := costD_bd (fun x hx => (dayB_iff (V.da x hx)).1) V.ex _
theorem index_eq (l : List Int) (a : Int) (hl : l.length ≤ 1000) : sl_Contains_int_int l a = some (l.contains a) := by
  have key : ∀ (d k m : Nat), k + d = l.length → d < m → ∃ j, loopF (sl_Index_int_int_l1 l a) m (k : Int) = some j ∧ decide (j ≥ 0) = (l.drop k).contains a := by
    intro d
    induction d with
    | zero =>
      intro k m h1 h2
      obtain ⟨m, rfl⟩ : ∃ q, m = q + 1 := ⟨m - 1, by omega⟩
      refine ⟨-1, ?_, by rw [List.drop_eq_nil_of_le (by omega)]; rfl⟩
      show sl_Index_int_int_l1 l a _ _ = _
      unfold sl_Index_int_int_l1
      rw [decide_eq_false (by omega), cond_false]
    | succ d ih =>
      intro k m h1 h2
      obtain ⟨m, rfl⟩ : ∃ q, m = q + 1 := ⟨m - 1, by omega⟩
      have hk : k < l.length := by omega
      obtain ⟨j, hj, hj2⟩ := ih (k + 1) m (by omega) (by omega)
      show ∃ j, sl_Index_int_int_l1 l a (loopF (sl_Index_int_int_l1 l a) m) _ = some j ∧ _
      generalize loopF (sl_Index_int_int_l1 l a) m = rec at hj
      unfold sl_Index_int_int_l1
      rw [decide_eq_true (by omega), cond_true, getI_ix hk, Option.bind_some, List.drop_eq_getElem_cons hk, List.contains_cons]
      cases hc : (a == l[k]) with
      | true => exact ⟨k, by rw [cond_true], by simp⟩
      | false =>
        refine ⟨j, ?_, by rw [hj2, Bool.false_or]⟩
        rw [cond_false, wrI (by omega) (by omega), show (k : Int) + 1 = ((k + 1 : Nat) : Int) by omega, hj]
  obtain ⟨j, hj, hj2⟩ := key l.length 0 big (by omega) (by rw [big_eq]; omega)
  unfold sl_Contains_int_int sl_Index_int_int
  rw [show loopF (sl_Index_int_int_l1 l a) big 0 = some j from hj, Option.bind_some, hj2]; rfl
theorem opened_eq {b : CoalBook} (V : Val b) (A : Arg b) (but : List Int) (hb : but.length ≤ 1000) : coal_opened b but = some (opn b but) := by
  have hp := V.pn; have hd := V.dn
  unfold coal_opened
  refine loop_fold0 (fun k => ((k : Int), keepD b.Dips but k)) b.Dips.length (fun rec k hk => ?_) (fun rec => ?_) (by rw [big_eq]; omega) rfl
  · unfold coal_opened_l29
    simp only
    rw [decide_eq_true (by omega), cond_true, getI_ix hk, Option.bind_some, index_eq _ _ hb, Option.bind_some, wrN hk (by omega), keepD, List.getElem?_eq_getElem hk]
    cases but.contains (k : Int) with
    | true => rfl
    | false =>
      simp only [Bool.not_false, cond_true, cond_false]
      rw [need_of (by have := keepD_len b.Dips but k; unfold fitsL; simp; omega)]
      rfl
  unfold coal_opened_l29
  simp only
  rw [decide_eq_false (by omega), cond_false]
  refine loop_fold0 (fun k => ((k : Int), costD b.Days b.Extra k)) b.Days.length (fun rec k hk => ?_) (fun rec => ?_) (by rw [big_eq]; omega) rfl
  · unfold coal_opened_l28
    simp only
    rw [decide_eq_true (by omega), cond_true, getI_ix hk, Option.bind_some, costD, List.getElem?_eq_getElem hk]
    refine loop_fold0 (fun j => ((j : Int), costW b.Days[k] b.Extra (k : Int) (costD b.Days b.Extra k) j)) 3 (fun rec' j hj => ?_) (fun rec' => ?_) (by rw [big_eq]; omega) rfl
    · unfold coal_opened_l27 coal_opened_j26
      simp only
      rw [decide_eq_true (by omega), cond_true, need_of (by simp [inI]; omega), show ((k : Int) == (-1)) = false by rw [beq_eq_false_iff_ne]; omega]
      simp only [Bool.false_and, Bool.not_false, cond_true]
      rw [need_of (by simp), wrN hj (by omega), costW]
      cases (andI (shrI b.Days[k].Winds (j : Int)) 1 == 1) <;> rfl
    · unfold coal_opened_l27
      simp only
      rw [decide_eq_false (by omega), cond_false, wrN hk (by omega)]
  · unfold coal_opened_l28
    simp only
    rw [decide_eq_false (by omega), cond_false]
    rfl
/-! questions to all truths -/
theorem isTrue_eq (q : Coal_book) (Q : Op q) : coal_book_isTrue q = some (!(truths q).isEmpty) := by
  unfold coal_book_isTrue coal_book_truths
  rw [Option.bind_some, truths_eq q Q, foldY_find coal_book_isTrue_r1 (fun _ => true) false true _ (fun x _ => rfl)]
  cases truths q <;> rfl
structure SpanOf (f : Coal_truth → Int) (L : List Coal_truth) (s : Span) : Prop where
  nil : L = [] → s = ⟨0, 0⟩
  low : L ≠ [] → ∃ t ∈ L, f t = s.Low
  high : L ≠ [] → ∃ t ∈ L, f t = s.High
  le : ∀ t ∈ L, s.Low ≤ f t
  ge : ∀ t ∈ L, f t ≤ s.High
def spanG (f : Coal_truth → Int) (z : Int × Int × Bool) (t : Coal_truth) : Int × Int × Bool :=
  bif z.2.2 then (f t, f t, false) else ((if f t < z.1 then f t else z.1), (if f t > z.2.1 then f t else z.2.1), false)
theorem spanG_fold (f : Coal_truth → Int) : ∀ (L : List Coal_truth) (lo hi : Int), ∃ lo' hi', L.foldl (spanG f) (lo, hi, false) = (lo', hi', false) ∧ (lo' = lo ∨ ∃ t ∈ L, f t = lo') ∧ (hi' = hi ∨ ∃ t ∈ L, f t = hi') ∧ lo' ≤ lo ∧ hi ≤ hi' ∧ ∀ t ∈ L, lo' ≤ f t ∧ f t ≤ hi'
  | [], lo, hi => ⟨lo, hi, rfl, .inl rfl, .inl rfl, Int.le_refl _, Int.le_refl _, fun t h => by cases h⟩
  | x :: L, lo, hi => by
    obtain ⟨lo', hi', h1, h2, h3, h4, h5, h6⟩ := spanG_fold f L (if f x < lo then f x else lo) (if f x > hi then f x else hi)
    refine ⟨lo', hi', h1, ?_, ?_, ?_, ?_, ?_⟩
    · rcases h2 with h2 | ⟨t, ht, h⟩
      · split at h2
        · exact .inr ⟨x, List.mem_cons_self .., h2.symm⟩
        · exact .inl h2
      · exact .inr ⟨t, List.mem_cons_of_mem _ ht, h⟩
    · rcases h3 with h3 | ⟨t, ht, h⟩
      · split at h3
        · exact .inr ⟨x, List.mem_cons_self .., h3.symm⟩
        · exact .inl h3
      · exact .inr ⟨t, List.mem_cons_of_mem _ ht, h⟩
    · split at h4 <;> omega
    · split at h5 <;> omega
    · intro t ht
      rcases List.mem_cons.1 ht with rfl | ht
      · constructor
        · split at h4 <;> omega
        · split at h5 <;> omega
      · exact h6 t ht
theorem span_ex (q : Coal_book) (Q : Op q) (x : Coal_number) (f : Coal_truth → Int) (hx : ∀ t ∈ truths q, x.of_ t = some (f t)) : ∃ s, coal_book_span q x = some s ∧ SpanOf f (truths q) s := by
  unfold coal_book_span coal_book_truths
  rw [Option.bind_some, truths_eq q Q, foldY_all (coal_book_span_r1 x) (spanG f) _ (fun t ht z => by
    unfold coal_book_span_r1 spanG
    rw [hx t ht, Option.bind_some]
    obtain ⟨a, b, c⟩ := z
    cases c <;> simp)]
  generalize truths q = L
  refine ⟨_, rfl, ?_⟩
  cases L with
  | nil => exact ⟨fun _ => rfl, fun h => (h rfl).elim, fun h => (h rfl).elim, fun t h => (by cases h), fun t h => (by cases h)⟩
  | cons t L =>
    obtain ⟨lo, hi, h1, h2, h3, h4, h5, h6⟩ := spanG_fold f L (f t) (f t)
    have e : (t :: L).foldl (spanG f) (0, 0, true) = (lo, hi, false) := h1
    simp only [e, Option.map_some]
    refine ⟨fun h => (by cases h), fun _ => ?_, fun _ => ?_, ?_, ?_⟩
    · rcases h2 with h2 | ⟨u, hu, h⟩
      · exact ⟨t, List.mem_cons_self .., h2.symm⟩
      · exact ⟨u, List.mem_cons_of_mem _ hu, h⟩
    · rcases h3 with h3 | ⟨u, hu, h⟩
      · exact ⟨t, List.mem_cons_self .., h3.symm⟩
      · exact ⟨u, List.mem_cons_of_mem _ hu, h⟩
    · intro u hu
      rcases List.mem_cons.1 hu with rfl | hu
      · exact h4
      · exact (h6 u hu).1
    · intro u hu
      rcases List.mem_cons.1 hu with rfl | hu
      · exact h5
      · exact (h6 u hu).2
def coalAt (d : Nat) (t : Coal_truth) : Int := t.coal_.getD d 0
end Go.Proofs.YticodohfokgjfaaDoor

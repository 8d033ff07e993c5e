/- What is told of a book, by all of its truths. -/
import Derived.Test.YticodohfokgjfaaDoorZGPOpen
import Derived.KernelRfl
set_option linter.unusedVariables false
set_option linter.unusedSimpArgs false
namespace Go.Proofs.YticodohfokgjfaaDoor
open Go Go.Fx
theorem stoked_eq : law_stoked = some true := by kernel_rfl
/-- a truth as it is built -/
structure Tru (q : Coal_book) (t : Coal_truth) : Prop where
  el : t.eats_.length = 2
  wl : t.winds_.length = 6
  cl : t.coal_.length = 6
  wi : ∀ k, k < q.CoalBook.Days.length → 0 ≤ t.winds_.getD k 0 ∧ t.winds_.getD k 0 ≤ 2
  co : ∀ k, k < q.CoalBook.Days.length → -100000 ≤ coalAt k t ∧ coalAt k t ≤ 100000
theorem getD_aset {l : List Int} {n k : Nat} {i x : Int} (hk : k < n) : (aset l n i x).getD k 0 = if k = i.toNat then x else l.getD k 0 := by
  simp [aset, List.getD_eq_getElem?_getD, hk]
theorem blown_step {q : Coal_book} {r : Nat} {t u : Coal_truth} {d c : Int} (h : u ∈ blown q (r + 1) t d c) : ∃ (w : Nat) (cost : Int), w < 3 ∧ lookL q.costs_ (Coal_gust.mk d (w : Int)) = some cost ∧ rightB q d ((bif t.collier_ == d then c + q.CoalBook.Brings else c) - eng q d t.eats_ - cost) = true ∧
    u ∈ blown q r (Coal_truth.mk t.eats_ t.collier_ (aset t.winds_ 6 d (w : Int)) (aset t.coal_ 6 d ((bif t.collier_ == d then c + q.CoalBook.Brings else c) - eng q d t.eats_ - cost))) (d + 1) ((bif t.collier_ == d then c + q.CoalBook.Brings else c) - eng q d t.eats_ - cost) := by
  rw [blown] at h
  obtain ⟨w, hw, h⟩ := List.mem_flatMap.1 h
  cases hl : lookL q.costs_ (Coal_gust.mk d (w : Int)) with
  | none => rw [hl] at h; cases h
  | some cost =>
    rw [hl] at h
    have h : u ∈ (bif rightB q d ((bif t.collier_ == d then c + q.CoalBook.Brings else c) - eng q d t.eats_ - cost) then _ else []) := h
    refine ⟨w, cost, by have := List.mem_range'_1.1 hw; omega, hl, ?_, ?_⟩
    · cases hr : rightB q d ((bif t.collier_ == d then c + q.CoalBook.Brings else c) - eng q d t.eats_ - cost) with
      | true => rfl
      | false => rw [hr] at h; cases h
    · cases hr : rightB q d ((bif t.collier_ == d then c + q.CoalBook.Brings else c) - eng q d t.eats_ - cost) with
      | true => rw [hr] at h; exact h
      | false => rw [hr] at h; cases h
theorem blown_tru (q : Coal_book) (Q : Op q) : ∀ (r : Nat) (t : Coal_truth) (d : Nat) (c : Int) (u : Coal_truth), d + r = q.CoalBook.Days.length → -(1000 * ((d : Int) + 1)) ≤ c → c ≤ 1000 * ((d : Int) + 1) → t.eats_.length = 2 → (∀ x ∈ t.eats_, 0 ≤ x ∧ x ≤ 9) → t.winds_.length = 6 → t.coal_.length = 6 →
    (∀ k, k < d → 0 ≤ t.winds_.getD k 0 ∧ t.winds_.getD k 0 ≤ 2) → (∀ k, k < d → -100000 ≤ coalAt k t ∧ coalAt k t ≤ 100000) → u ∈ blown q r t d c → Tru q u ∧ u.eats_ = t.eats_ ∧ u.collier_ = t.collier_ := by
  have hdn := Q.dn; have hbr := Q.br
  intro r
  induction r with
  | zero =>
    intro t d c u h1 h2 h3 h4 h5 h6 h7 h8 h9 hu
    obtain rfl := List.mem_singleton.1 hu
    exact ⟨⟨h4, h6, h7, fun k hk => h8 k (by omega), fun k hk => h9 k (by omega)⟩, rfl, rfl⟩
  | succ r ih =>
    intro t d c u h1 h2 h3 h4 h5 h6 h7 h8 h9 hu
    obtain ⟨w, cost, hw, hl, hr, hu⟩ := blown_step hu
    obtain ⟨_, e2, e3⟩ := engines_eq q Q d (by omega) t.eats_ h4 h5
    obtain ⟨p, hp, rfl⟩ := look_mem hl
    obtain ⟨p1, p2⟩ := Q.cs p hp
    have hz : -(1000 * ((d : Int) + 1)) ≤ (bif t.collier_ == (d : Int) then c + q.CoalBook.Brings else c) ∧ (bif t.collier_ == (d : Int) then c + q.CoalBook.Brings else c) ≤ 1000 * ((d : Int) + 1) + 400 := by
      cases (t.collier_ == (d : Int)) <;> simp only [cond_true, cond_false] <;> omega
    generalize (bif t.collier_ == (d : Int) then c + q.CoalBook.Brings else c) = z at hz hu hr
    have := ih (Coal_truth.mk t.eats_ t.collier_ (aset t.winds_ 6 d (w : Int)) (aset t.coal_ 6 d (z - eng q d t.eats_ - p.2))) (d + 1) (z - eng q d t.eats_ - p.2) u (by omega) (by omega) (by omega) h4 h5 (by simp [aset_len]) (by simp [aset_len])
      (fun k hk => by
        simp only
        rw [getD_aset (by omega)]
        split
        · omega
        · exact h8 k (by simp at *; omega))
      (fun k hk => by
        unfold coalAt
        simp only
        rw [getD_aset (by omega)]
        split
        · omega
        · exact h9 k (by simp at *; omega)) hu
    exact this
theorem truths_tru {q : Coal_book} (Q : Op q) {t : Coal_truth} (h : t ∈ truths q) : Tru q t ∧ (∀ x ∈ t.eats_, 0 ≤ x ∧ x ≤ 9) ∧ t.collier_ ∈ rng q.CoalBook.Collier := by
  obtain ⟨hp, h1, o, h2, p, h3, c, h4, h⟩ := truth_mem.1 h
  have g1 := rng_mem.1 h1; have g2 := rng_mem.1 h2; have g3 := rng_mem.1 h3
  have := Q.hp.l0; have := Q.hp.hi
  have he0 := Q.ea _ (agetS_mem (i := 0) (by rw [Q.el]; decide))
  have he1 := Q.ea _ (agetS_mem (i := 1) (by rw [Q.el]; decide))
  have m0 := he0.1.l0; have m1 := he0.2; have m2 := he1.1.l0; have m3 := he1.2
  have hb : ∀ x ∈ (init o p c).eats_, 0 ≤ x ∧ x ≤ 9 := fun x hx => by
    simp [init] at hx
    rcases hx with rfl | rfl <;> omega
  obtain ⟨T, e1, e2⟩ := blown_tru q Q q.CoalBook.Days.length (init o p c) 0 hp t (by omega) (by simp only [Int.natCast_zero]; omega) (by simp only [Int.natCast_zero]; omega) rfl hb rfl rfl (fun k hk => by omega) (fun k hk => by omega) h
  refine ⟨T, by rw [e1]; exact hb, by rw [e2]; exact h4⟩
abbrev TT (b : CoalBook) : List Coal_truth := truths (opn b [])
theorem asked_eq {b : CoalBook} (V : Val b) (A : Arg b) : coal_asked b true = some (opn b [], bif (TT b).isEmpty then 62 else 0) := by
  unfold coal_asked
  rw [check_eq b A, val_iff.2 V, Option.bind_some, opened_eq V A [] (by simp), Option.bind_some]
  rw [show (Coal_book.mk (CoalBook.mk (opn b []).CoalBook.Heap (opn b []).CoalBook.Eats (opn b []).CoalBook.Extra b.Days (opn b []).CoalBook.Collier (opn b []).CoalBook.Brings (opn b []).CoalBook.Dips) (opn b []).costs_) = opn b [] from rfl]
  rw [isTrue_eq _ (opn_op V A []), Option.bind_some]
  cases (TT b).isEmpty <;> rfl
theorem dayIn {b : CoalBook} {d : Nat} (hd : d < b.Days.length) : inB (d : Int) 0 ((b.Days.length : Int) - 1) = true := inB_iff.2 (by omega)
theorem coal_of {q : Coal_book} (Q : Op q) {d : Nat} (hd : d < q.CoalBook.Days.length) : ∃ s, coal_book_span q (Coal_number.mk fun y => coal_coal_1 y (d : Int)) = some s ∧ SpanOf (coalAt d) (truths q) s :=
  span_ex q Q _ (coalAt d) fun t ht => by
    have := Q.dn
    show coal_coal_1 t (d : Int) = _
    unfold coal_coal_1
    rw [need_of (by simp [inI]; omega)]
    rfl
def kind (L : List Coal_truth) (d : Nat) : Int := (bif L.any (lastB d) then 1 else 0) + (bif L.all (lastB d) then 1 else 0)
theorem some_eq {q : Coal_book} (Q : Op q) {d : Nat} (hd : d < 6) : coal_book_some q d = some ((truths q).any (lastB d)) := by
  unfold coal_book_some coal_book_truths
  rw [Option.bind_some, truths_eq q Q, foldY_find (coal_book_some_r1 (d : Int)) (lastB d) false true _ (fun t ht => by
    unfold coal_book_some_r1
    rw [lasts_eq t d hd, Option.bind_some]
    cases lastB d t <;> rfl)]
  cases (truths q).any (lastB d) <;> rfl
theorem each_eq {q : Coal_book} (Q : Op q) {d : Nat} (hd : d < 6) : coal_book_each q d = some ((truths q).all (lastB d)) := by
  unfold coal_book_each coal_book_truths
  rw [Option.bind_some, truths_eq q Q, foldY_find (coal_book_each_r1 (d : Int)) (fun t => !lastB d t) () () _ (fun t ht => by
    unfold coal_book_each_r1
    rw [lasts_eq t d hd, Option.bind_some]
    cases lastB d t <;> rfl), List.all_eq_not_any_not]
  cases (truths q).any fun t => !lastB d t <;> rfl
theorem lasts_law {b : CoalBook} (V : Val b) (A : Arg b) {d : Nat} (hd : d < b.Days.length) : coal_Lasts b d = some (bif (TT b).isEmpty then (0, 62) else (kind (TT b) d, 0)) := by
  unfold coal_Lasts
  have hdn := V.dn
  rw [isDay_eq b A, Option.bind_some, dayIn hd, asked_eq V A, Option.bind_some]
  cases h : (TT b).isEmpty with
  | true => rfl
  | false =>
    simp only [cond_false, bne_self_eq_false]
    refine loop_fold0 (fun k => ((bif decide (1 ≤ k) && (TT b).any (lastB d) then 1 else 0) + (bif decide (2 ≤ k) && (TT b).all (lastB d) then 1 else 0), (k : Int))) 2 (fun rec k hk => ?_) (fun rec => ?_) (by rw [big_eq]; omega) rfl
    · unfold coal_Lasts_l1
      match k, hk with
      | 0, _ =>
        simp only [show decide (((0 : Nat) : Int) < 2) = true by decide, cond_true, show inI ((0 : Nat) : Int) 2 = true by decide, need_true, show (((0 : Nat) : Int) == 0) = true by decide, some_eq (opn_op V A []) (show d < 6 by omega), Option.bind_some]
        cases (TT b).any (lastB d) <;> rfl
      | 1, _ =>
        simp only [show decide (((1 : Nat) : Int) < 2) = true by decide, cond_true, show inI ((1 : Nat) : Int) 2 = true by decide, need_true, show (((1 : Nat) : Int) == 0) = false by decide, cond_false, each_eq (opn_op V A []) (show d < 6 by omega), Option.bind_some]
        cases (TT b).any (lastB d) <;> cases (TT b).all (lastB d) <;> rfl
    · unfold coal_Lasts_l1
      simp only [show decide (((2 : Nat) : Int) < 2) = false by decide, cond_false, show decide (1 ≤ 2) = true by decide, show decide (2 ≤ 2) = true by decide, Bool.true_and]
      rfl
theorem day_law {b : CoalBook} (V : Val b) (A : Arg b) : ∃ r, coal_Day b = some r ∧ (TT b = [] → r = (0, 62)) ∧ (TT b ≠ [] → (∃ d : Nat, d < b.Days.length ∧ r = ((d : Int), 0) ∧ (∃ t ∈ TT b, coalAt d t < 0) ∧ ∀ k, k < d → ∀ t ∈ TT b, 0 ≤ coalAt k t) ∨ (r = (0, 4) ∧ ∀ k, k < b.Days.length → ∀ t ∈ TT b, 0 ≤ coalAt k t)) := by
  unfold coal_Day
  have hdn := V.dn
  rw [asked_eq V A, Option.bind_some]
  cases h : (TT b).isEmpty with
  | true => exact ⟨_, rfl, fun _ => rfl, fun h2 => (h2 (List.isEmpty_iff.1 h)).elim⟩
  | false =>
    have hne : TT b ≠ [] := fun h2 => by rw [h2] at h; cases h
    simp only [cond_false, bne_self_eq_false]
    have key : ∀ (e k m : Nat), k + e = b.Days.length → e < m → (∀ j, j < k → ∀ t ∈ TT b, 0 ≤ coalAt j t) → ∃ r, loopF (coal_Day_l1 b (opn b [], 0)) m (k : Int) = some r ∧ ((∃ d : Nat, d < b.Days.length ∧ r = ((d : Int), 0) ∧ (∃ t ∈ TT b, coalAt d t < 0) ∧ ∀ k, k < d → ∀ t ∈ TT b, 0 ≤ coalAt k t) ∨ (r = (0, 4) ∧ ∀ k, k < b.Days.length → ∀ t ∈ TT b, 0 ≤ coalAt k t)) := by
      intro e
      induction e with
      | zero =>
        intro k m h1 h2 h3
        obtain ⟨m, rfl⟩ : ∃ q, m = q + 1 := ⟨m - 1, by omega⟩
        refine ⟨(0, 4), ?_, .inr ⟨rfl, fun j hj => h3 j (by omega)⟩⟩
        show coal_Day_l1 b (opn b [], 0) _ (k : Int) = _
        unfold coal_Day_l1
        rw [decide_eq_false (by omega), cond_false]
      | succ e ih =>
        intro k m h1 h2 h3
        obtain ⟨m, rfl⟩ : ∃ q, m = q + 1 := ⟨m - 1, by omega⟩
        have ih2 := ih (k + 1) m (by omega) (by omega)
        show ∃ r, coal_Day_l1 b (opn b [], 0) (loopF (coal_Day_l1 b (opn b [], 0)) m) (k : Int) = some r ∧ _
        generalize loopF (coal_Day_l1 b (opn b [], 0)) m = rec at ih2
        obtain ⟨s, hs, S⟩ := coal_of (opn_op V A []) (d := k) (show k < b.Days.length by omega)
        unfold coal_Day_l1 coal_coal
        rw [decide_eq_true (by omega), cond_true]
        simp only [Option.bind_some, hs]
        by_cases hl : s.Low < 0
        · refine ⟨((k : Int), 0), by rw [decide_eq_true hl, cond_true], .inl ⟨k, by omega, rfl, ?_, h3⟩⟩
          obtain ⟨t, ht, e⟩ := S.low hne
          exact ⟨t, ht, by omega⟩
        · rw [decide_eq_false hl, cond_false, wrI (by omega) (by omega), show (k : Int) + 1 = ((k + 1 : Nat) : Int) by omega]
          refine ih2 fun j hj t ht => ?_
          by_cases hj2 : j = k
          · subst hj2; have := S.le t ht; omega
          · exact h3 j (by omega) t ht
    obtain ⟨r, hr, hr2⟩ := key b.Days.length 0 big (by omega) (by rw [big_eq]; omega) (fun j hj => by omega)
    exact ⟨r, hr, fun h2 => (hne h2).elim, fun _ => hr2⟩
end Go.Proofs.YticodohfokgjfaaDoor

set_option linter.unusedVariables false
set_option linter.unusedSimpArgs false
namespace Go.Proofs.YticodohfokgjfaaDoor
open Go Go.Fx
theorem co_iff {b : CoalBook} (V : Val b) : 0 ≤ b.Collier.Low ∧ b.Collier.Low ≤ b.Collier.High ∧ b.Collier.High ≤ 6 := by
  have := V.co
  have := V.dn
  unfold spB at *
  simp only [Bool.and_eq_true, decide_eq_true_eq] at *
  omega
def lateG (d : Nat) (m : Int) (t : Coal_truth) : Int := bif lastB d t then m else if t.collier_ < m then t.collier_ else m
theorem lateG_fold (d : Nat) : ∀ (L : List Coal_truth) (m : Int), (L.foldl (lateG d) m = m ∨ ∃ t ∈ L, lastB d t = false ∧ t.collier_ = L.foldl (lateG d) m) ∧ L.foldl (lateG d) m ≤ m ∧ ∀ t ∈ L, lastB d t = false → L.foldl (lateG d) m ≤ t.collier_
  | [], m => ⟨.inl rfl, Int.le_refl _, fun t h => by cases h⟩
  | x :: L, m => by
    obtain ⟨h1, h2, h3⟩ := lateG_fold d L (lateG d m x)
    have hg : lateG d m x ≤ m ∧ (lateG d m x = m ∨ lastB d x = false ∧ x.collier_ = lateG d m x) ∧ (lastB d x = false → lateG d m x ≤ x.collier_) := by
      unfold lateG
      cases hl : lastB d x with
      | true => simp
      | false =>
        rw [cond_false]
        refine ⟨by split <;> omega, ?_, fun _ => by split <;> omega⟩
        split
        · exact .inr ⟨rfl, rfl⟩
        · exact .inl rfl
    rw [List.foldl_cons]
    refine ⟨?_, by omega, fun t ht hl => ?_⟩
    · rcases h1 with h1 | ⟨t, ht, h1⟩
      · rcases hg.2.1 with h | ⟨ha, hb⟩
        · exact .inl (by omega)
        · exact .inr ⟨x, List.mem_cons_self .., ha, by omega⟩
      · exact .inr ⟨t, List.mem_cons_of_mem _ ht, h1⟩
    · rcases List.mem_cons.1 ht with rfl | ht
      · have := hg.2.2 hl; omega
      · exact h3 t ht hl
theorem late_law {b : CoalBook} (V : Val b) (A : Arg b) : ∃ r, coal_Late b = some r ∧ (TT b = [] → r = (0, 62)) ∧ (TT b ≠ [] → ∃ m : Int, r = (bif m == b.Collier.Low then (0, 4) else (m - 1, 0)) ∧ b.Collier.Low ≤ m ∧ m ≤ b.Collier.High + 1 ∧ (m = b.Collier.High + 1 ∨ ∃ t ∈ TT b, lastB (b.Days.length - 1) t = false ∧ t.collier_ = m) ∧ ∀ t ∈ TT b, lastB (b.Days.length - 1) t = false → m ≤ t.collier_) := by
  unfold coal_Late coal_book_truths
  have hdn := V.dn
  have hc := co_iff V
  rw [asked_eq V A, Option.bind_some]
  cases h : (TT b).isEmpty with
  | true => exact ⟨_, rfl, fun _ => rfl, fun h2 => (h2 (List.isEmpty_iff.1 h)).elim⟩
  | false =>
    have hne : TT b ≠ [] := fun h2 => by rw [h2] at h; cases h
    simp only [cond_false, bne_self_eq_false, Option.bind_some]
    rw [truths_eq _ (opn_op V A []), wrI (x := b.Collier.High + 1) (by omega) (by omega), foldY_all (coal_Late_r2 b) (lateG (b.Days.length - 1)) _ (fun t ht z => by
      unfold coal_Late_r2 lateG
      rw [wrI (by omega) (by omega), show (b.Days.length : Int) - 1 = ((b.Days.length - 1 : Nat) : Int) by omega, lasts_eq t _ (by omega), Option.bind_some]
      cases lastB (b.Days.length - 1) t <;> rfl)]
    obtain ⟨h1, h2, h3⟩ := lateG_fold (b.Days.length - 1) (TT b) (b.Collier.High + 1)
    simp only [Option.map_some, Option.bind_some]
    generalize List.foldl (lateG (b.Days.length - 1)) (b.Collier.High + 1) (TT b) = m at *
    have hlow : b.Collier.Low ≤ m := by
      rcases h1 with h1 | ⟨t, ht, _, e⟩
      · omega
      · have := rng_mem.1 (truths_tru (opn_op V A []) ht).2.2
        have : b.Collier.Low ≤ t.collier_ := this.1
        omega
    refine ⟨_, ?_, fun h2 => (hne h2).elim, fun _ => ⟨m, rfl, hlow, h2, h1, h3⟩⟩
    rw [wrI (by omega) (by omega)]
    cases (m == b.Collier.Low) <;> rfl
theorem order_nil {b : CoalBook} (V : Val b) (A : Arg b) (h : TT b = []) : coal_Order b = some (0, 62) := by
  unfold coal_Order
  rw [asked_eq V A, Option.bind_some, h]
  rfl
end Go.Proofs.YticodohfokgjfaaDoor

set_option linter.unusedVariables false
set_option linter.unusedSimpArgs false
namespace Go.Proofs.YticodohfokgjfaaDoor
open Go Go.Fx
structure OrderOf (len : Nat) (L : List Coal_truth) (n : Int) : Prop where
  n0 : 0 ≤ n
  hi : n ≤ 100000
  ge : ∀ k, k < len → ∀ t ∈ L, -coalAt k t ≤ n
  is : n = 0 ∨ ∃ k, k < len ∧ ∃ t ∈ L, n = -coalAt k t
theorem order_law {b : CoalBook} (V : Val b) (A : Arg b) : ∃ n, coal_Order b = some (bif (TT b).isEmpty then (0, 62) else (n, 0)) ∧ (TT b ≠ [] → OrderOf b.Days.length (TT b) n) := by
  cases h : (TT b).isEmpty with
  | true => exact ⟨0, order_nil V A (List.isEmpty_iff.1 h), fun h2 => (h2 (List.isEmpty_iff.1 h)).elim⟩
  | false =>
    have hne : TT b ≠ [] := fun h2 => by rw [h2] at h; cases h
    have hdn := V.dn
    have Q := opn_op V A []
    unfold coal_Order
    rw [asked_eq V A, Option.bind_some, h]
    simp only [cond_false, bne_self_eq_false]
    have key : ∀ (e k m : Nat) (z : Int), k + e = b.Days.length → e < m → OrderOf k (TT b) z → ∃ n, loopF (coal_Order_l1 b (opn b [], 0)) m (z, (k : Int)) = some (n, 0) ∧ OrderOf b.Days.length (TT b) n := by
      intro e
      induction e with
      | zero =>
        intro k m z h1 h2 h3
        obtain ⟨m, rfl⟩ : ∃ q, m = q + 1 := ⟨m - 1, by omega⟩
        refine ⟨z, ?_, by rw [← h1, Nat.add_zero]; exact h3⟩
        show coal_Order_l1 b (opn b [], 0) _ _ = _
        unfold coal_Order_l1
        simp only
        rw [decide_eq_false (by omega), cond_false]
      | succ e ih =>
        intro k m z h1 h2 h3
        obtain ⟨m, rfl⟩ : ∃ q, m = q + 1 := ⟨m - 1, by omega⟩
        show ∃ n, coal_Order_l1 b (opn b [], 0) (loopF (coal_Order_l1 b (opn b [], 0)) m) _ = some (n, 0) ∧ _
        obtain ⟨s, hs, S⟩ := coal_of Q (d := k) (show k < b.Days.length by omega)
        obtain ⟨u, hu, eu⟩ := S.low hne
        have bu := (truths_tru Q hu).1.co k (show k < b.Days.length by omega)
        obtain ⟨n, hn, hn2⟩ := ih (k + 1) m (if -s.Low > z then -s.Low else z) (by omega) (by omega) ⟨by split <;> have := h3.n0 <;> omega, by split <;> have := h3.hi <;> omega, fun j hj t ht => by
          by_cases hjk : j = k
          · subst hjk; have := S.le t ht; split <;> omega
          · have := h3.ge j (by omega) t ht; split <;> omega, by
          split
          · exact .inr ⟨k, by omega, u, hu, by omega⟩
          · rcases h3.is with h | ⟨j, hj, t, ht, h⟩
            · exact .inl h
            · exact .inr ⟨j, by omega, t, ht, h⟩⟩
        refine ⟨n, ?_, hn2⟩
        generalize loopF (coal_Order_l1 b (opn b [], 0)) m = rec at hn
        unfold coal_Order_l1 coal_coal
        simp only
        rw [decide_eq_true (by omega), cond_true, Option.bind_some, hs, Option.bind_some, wrI (x := -s.Low) (by omega) (by omega), wrI (by omega) (by omega), show (k : Int) + 1 = ((k + 1 : Nat) : Int) by omega]
        exact hn
    obtain ⟨n, hn, hn2⟩ := key b.Days.length 0 big 0 (by omega) (by rw [big_eq]; omega) ⟨Int.le_refl _, by omega, fun k hk => by omega, .inl rfl⟩
    exact ⟨n, hn, fun _ => hn2⟩
/-! a heap that is higher -/
def shT (n : Int) (m : Nat) (t : Coal_truth) : Coal_truth := Coal_truth.mk t.eats_ t.collier_ t.winds_ ((List.range 6).map fun k => if k < m then t.coal_.getD k 0 + n else t.coal_.getD k 0)
end Go.Proofs.YticodohfokgjfaaDoor

set_option linter.unusedVariables false
set_option linter.unusedSimpArgs false
namespace Go.Proofs.YticodohfokgjfaaDoor
open Go Go.Fx
def Clm (l : List Int) (n : Int) : Prop := ∀ (k : Nat) (x : Int), l[k]? = some x → 0 ≤ x ∧ x < n ∧ ∀ y, 0 < k → l[k - 1]? = some y → y < x
theorem Clm.nil {n : Int} : Clm [] n := fun k x h => by simp at h
theorem Clm.lt {l : List Int} {n : Int} (h : Clm l n) : ∀ (d i : Nat) (x y : Int), l[i]? = some x → l[i + d + 1]? = some y → x < y := by
  intro d
  induction d with
  | zero => intro i x y hx hy; exact (h (i + 1) y hy).2.2 x (by omega) (by simpa using hx)
  | succ d ih =>
    intro i x y hx hy
    have hlt : i + d + 1 < l.length := by have := (List.getElem?_eq_some_iff.1 hy).1; omega
    have h1 := ih i x _ hx (List.getElem?_eq_getElem hlt)
    have h2 := (h (i + (d + 1) + 1) y hy).2.2 _ (by omega) (by rw [show i + (d + 1) + 1 - 1 = i + d + 1 by omega]; exact List.getElem?_eq_getElem hlt)
    omega
theorem Clm.len {l : List Int} {n : Int} (h : Clm l n) (h0 : 0 ≤ n) : (l.length : Int) ≤ n := by
  have : ∀ (k : Nat) (x : Int), l[k]? = some x → (k : Int) ≤ x := by
    intro k
    induction k with
    | zero => intro x hx; have := (h 0 x hx).1; omega
    | succ k ih =>
      intro x hx
      have hlt : k < l.length := by have := (List.getElem?_eq_some_iff.1 hx).1; omega
      have h1 := ih _ (List.getElem?_eq_getElem hlt)
      have h2 := h.lt 0 k _ x (List.getElem?_eq_getElem hlt) hx
      omega
  by_cases hl : l.length = 0
  · omega
  · have hlt : l.length - 1 < l.length := by omega
    have h1 := this _ _ (List.getElem?_eq_getElem hlt)
    have h2 := (h _ _ (List.getElem?_eq_getElem hlt)).2.1
    omega
/-- a book without some measures can be true -/
def CanO (b : CoalBook) (l : List Int) : Prop := truths (opn b l) ≠ []
/-- a list of places below n that climbs, so long, and begins so -/
structure Ext (n : Nat) (l : List Int) (many : Nat) (o : List Int) : Prop where
  len : o.length = many
  clm : Clm o n
  pre : ∀ (i : Nat) (x : Int), l[i]? = some x → o[i]? = some x
def LexLt (o w : List Int) : Prop := ∃ (i : Nat) (x y : Int), o[i]? = some x ∧ w[i]? = some y ∧ x < y ∧ ∀ j, j < i → o[j]? = w[j]?
theorem Ext.more {n many : Nat} {l o : List Int} {x : Int} (h : Ext n l many o) (hx : o[l.length]? = some x) : Ext n (l ++ [x]) many o := by
  refine ⟨h.len, h.clm, fun i y hy => ?_⟩
  by_cases hi : i < l.length
  · rw [List.getElem?_append_left hi] at hy; exact h.pre i y hy
  · rw [List.getElem?_append_right (by omega), List.getElem?_singleton] at hy
    split at hy
    · cases hy; rw [show i = l.length by omega]; exact hx
    · cases hy
theorem Ext.less {n many : Nat} {l o : List Int} {x : Int} (h : Ext n (l ++ [x]) many o) : Ext n l many o ∧ o[l.length]? = some x := by
  refine ⟨⟨h.len, h.clm, fun i y hy => h.pre i y ?_⟩, h.pre _ _ (by simp)⟩
  rw [List.getElem?_append_left (List.getElem?_eq_some_iff.1 hy).1]; exact hy
def allL (n : Nat) : List Int := (List.range n).map Int.ofNat
/-- the fewest that must be left out, the first of those -/
structure Few (b : CoalBook) (w : List Int) : Prop where
  clm : Clm w b.Dips.length
  can : CanO b w
  len : ∀ o, Clm o b.Dips.length → CanO b o → w.length ≤ o.length
  lex : ∀ o, Clm o b.Dips.length → CanO b o → o.length = w.length → ¬ LexLt o w
end Go.Proofs.YticodohfokgjfaaDoor

set_option linter.unusedVariables false
set_option linter.unusedSimpArgs false
namespace Go.Proofs.YticodohfokgjfaaDoor
open Go Go.Fx
def Has (m : List (Coal_gust × Int)) (g : Coal_gust) : Prop := ∃ p ∈ m, p.1 = g
theorem has_look {m : List (Coal_gust × Int)} {g : Coal_gust} (h : Has m g) : ∃ v, lookL m g = some v := by
  obtain ⟨p, hp, rfl⟩ := h
  unfold lookL
  cases hf : m.find? (·.1 == p.1) with
  | some x => exact ⟨x.2, rfl⟩
  | none =>
    have := List.find?_eq_none.1 hf p hp
    simp at this
theorem has_put {m : List (Coal_gust × Int)} {g g' : Coal_gust} {v : Int} (h : Has m g') : Has (putL m g v) g' := by
  obtain ⟨p, hp, rfl⟩ := h
  unfold putL
  split
  · rename_i i hi
    obtain ⟨j, hj, rfl⟩ := List.getElem_of_mem hp
    obtain ⟨hi1, hi2, _⟩ := List.findIdx?_eq_some_iff_getElem.1 hi
    by_cases hij : i = j
    · subst hij
      refine ⟨(g, v), List.mem_set (by simpa using hi1) _, ?_⟩
      have := hi2
      simp at this
      exact this.symm
    · refine ⟨m[j], ?_, rfl⟩
      have h2 : j < (m.set i (g, v)).length := by simpa using hj
      have := List.getElem_mem h2
      rwa [List.getElem_set_ne hij] at this
  · exact ⟨p, List.mem_append_left _ hp, rfl⟩
theorem put_has {m : List (Coal_gust × Int)} {g : Coal_gust} {v : Int} : Has (putL m g v) g := by
  unfold putL
  split
  · rename_i i hi
    obtain ⟨hi1, hi2, _⟩ := List.findIdx?_eq_some_iff_getElem.1 hi
    exact ⟨(g, v), List.mem_set (by simpa using hi1) _, rfl⟩
  · exact ⟨(g, v), List.mem_append_right _ (List.mem_singleton.2 rfl), rfl⟩
theorem costW_keep {x : CoalDay} {ex : List Int} {d : Int} {m : List (Coal_gust × Int)} {g : Coal_gust} (h : Has m g) : ∀ k, Has (costW x ex d m k) g
  | 0 => h
  | k + 1 => by
    unfold costW
    cases (andI (shrI x.Winds (k : Int)) 1) == 1 with
    | false => exact costW_keep h k
    | true => exact has_put (costW_keep h k)
theorem costW_has {x : CoalDay} {ex : List Int} {d : Int} {m : List (Coal_gust × Int)} {j : Nat} (hb : ((andI (shrI x.Winds (j : Int)) 1) == 1) = true) : ∀ k, j < k → Has (costW x ex d m k) (Coal_gust.mk d (j : Int))
  | 0, h => by omega
  | k + 1, h => by
    unfold costW
    by_cases hjk : j = k
    · subst hjk; rw [hb]; exact put_has
    · have := costW_has (x := x) (ex := ex) (d := d) (m := m) hb k (by omega)
      cases (andI (shrI x.Winds (k : Int)) 1) == 1 with
      | false => exact this
      | true => exact has_put this
theorem costD_has {ds : List CoalDay} {ex : List Int} {d j : Nat} {x : CoalDay} (hx : ds[d]? = some x) (hj : j < 3) (hb : ((andI (shrI x.Winds (j : Int)) 1) == 1) = true) : ∀ k, d < k → Has (costD ds ex k) (Coal_gust.mk (d : Int) (j : Int))
  | 0, h => by omega
  | k + 1, h => by
    unfold costD
    by_cases hdk : d = k
    · subst hdk; rw [hx]; exact costW_has hb 3 hj
    · have := costD_has (ex := ex) hx hj hb k (by omega)
      cases ds[k]? with
      | none => exact this
      | some y => exact costW_keep this 3
theorem wind_some : ∀ w : Fin 8, 1 ≤ w.val → ∃ j : Fin 3, ((andI (shrI (w.val : Int) (j.val : Int)) 1) == 1) = true := by decide +kernel
theorem blown_ne {b : CoalBook} (V : Val b) {but : List Int} (hk : keepD b.Dips but b.Dips.length = []) : ∀ (r : Nat) (t : Coal_truth) (d : Nat) (c : Int), d + r = b.Days.length → blown (opn b but) r t d c ≠ [] := by
  intro r
  induction r with
  | zero => intro t d c _ h; cases h
  | succ r ih =>
    intro t d c hd
    have hdl : d < b.Days.length := by omega
    obtain ⟨_, _, w1, w2⟩ := dayB_iff (V.da _ (List.getElem_mem hdl))
    obtain ⟨j, hj⟩ := wind_some ⟨b.Days[d].Winds.toNat, by omega⟩ (by simp only; omega)
    simp only [show ((b.Days[d].Winds.toNat : Nat) : Int) = b.Days[d].Winds by omega] at hj
    obtain ⟨v, hv⟩ := has_look (costD_has (ex := b.Extra) (List.getElem?_eq_getElem hdl) j.isLt hj b.Days.length hdl)
    have hr : ∀ x, rightB (opn b but) d x = true := fun x => by
      unfold rightB
      rw [show (opn b but).CoalBook.Dips = [] from hk]; rfl
    rw [blown]
    intro h
    have := List.flatMap_eq_nil_iff.1 h j.val (List.mem_range'_1.2 (by have := j.isLt; omega))
    rw [show (opn b but).costs_ = costD b.Days b.Extra b.Days.length from rfl, hv] at this
    simp only [blown.optL, hr, cond_true] at this
    have e := ih (Coal_truth.mk t.eats_ t.collier_ (aset t.winds_ 6 d (j.val : Int)) (aset t.coal_ 6 d ((bif t.collier_ == (d : Int) then c + (opn b but).CoalBook.Brings else c) - eng (opn b but) d t.eats_ - v))) (d + 1) ((bif t.collier_ == (d : Int) then c + (opn b but).CoalBook.Brings else c) - eng (opn b but) d t.eats_ - v) (by omega)
    rw [show ((d + 1 : Nat) : Int) = (d : Int) + 1 by omega] at e
    exact e this
theorem truths_ne {b : CoalBook} (V : Val b) (A : Arg b) {but : List Int} (hk : keepD b.Dips but b.Dips.length = []) : truths (opn b but) ≠ [] := by
  have Q := opn_op V A but
  have e0 := (Q.ea _ (agetS_mem (i := 0) (by rw [Q.el]; decide))).1
  have e1 := (Q.ea _ (agetS_mem (i := 1) (by rw [Q.el]; decide))).1
  have := blown_ne V hk b.Days.length (init (agetS (opn b but).CoalBook.Eats (0 : Int)).Low (agetS (opn b but).CoalBook.Eats (1 : Int)).Low b.Collier.Low) 0 b.Heap.Low (by omega)
  obtain ⟨t, ht⟩ := List.exists_mem_of_ne_nil _ this
  refine List.ne_nil_of_mem (truth_mem.2 ⟨b.Heap.Low, rng_mem.2 ⟨Int.le_refl _, Q.hp.lh⟩, _, rng_mem.2 ⟨Int.le_refl _, e0.lh⟩, _, rng_mem.2 ⟨Int.le_refl _, e1.lh⟩, b.Collier.Low, rng_mem.2 ⟨Int.le_refl _, Q.co.lh⟩, ht⟩)
theorem keepD_none {l : List CoalDip} {but : List Int} : ∀ k, (∀ j : Nat, j < k → (j : Int) ∈ but) → keepD l but k = []
  | 0, _ => rfl
  | k + 1, h => by
    unfold keepD
    rw [show but.contains (k : Int) = true by simpa using h k (by omega), cond_true]
    exact keepD_none k fun j hj => h j (by omega)
theorem keepD_all {l : List CoalDip} : ∀ k, k ≤ l.length → keepD l [] k = l.take k
  | 0, _ => rfl
  | k + 1, h => by
    unfold keepD
    rw [show ([] : List Int).contains (k : Int) = false from rfl, cond_false, keepD_all k (by omega), ← List.take_append_getElem (show k < l.length by omega), List.getElem?_eq_getElem (show k < l.length by omega)]
    rfl
theorem hall {b : CoalBook} (V : Val b) (A : Arg b) : CanO b (allL b.Dips.length) := by
  refine truths_ne V A (keepD_none _ fun j hj => ?_)
  exact List.mem_map.2 ⟨j, List.mem_range.2 hj, rfl⟩
end Go.Proofs.YticodohfokgjfaaDoor

set_option linter.unusedVariables false
set_option linter.unusedSimpArgs false
namespace Go.Proofs.YticodohfokgjfaaDoor
open Go Go.Fx
def bitB (x : CoalDay) (j : Nat) : Bool := (andI (shrI x.Winds (j : Int)) 1) == 1
def Ent (ds : List CoalDay) (ex : List Int) (p : Coal_gust × Int) : Prop := ∃ (k j : Nat) (x : CoalDay), p.1 = Coal_gust.mk (k : Int) (j : Int) ∧ ds[k]? = some x ∧ bitB x j = true ∧ j < 3 ∧ p.2 = wr (x.Crosses * aget ex (j : Int))
theorem costW_ent {ds : List CoalDay} {ex : List Int} {d : Nat} {x : CoalDay} {m : List (Coal_gust × Int)} (hx : ds[d]? = some x) (hm : ∀ p ∈ m, Ent ds ex p) : ∀ k, k ≤ 3 → ∀ p ∈ costW x ex (d : Int) m k, Ent ds ex p
  | 0, _ => hm
  | k + 1, hk => by
    intro p hp
    unfold costW at hp
    cases hc : (andI (shrI x.Winds (k : Int)) 1) == 1 with
    | false => rw [hc, cond_false] at hp; exact costW_ent hx hm k (by omega) p hp
    | true =>
      rw [hc, cond_true] at hp
      rcases putL_mem hp with rfl | hp
      · exact ⟨d, k, x, rfl, hx, hc, by omega, rfl⟩
      · exact costW_ent hx hm k (by omega) p hp
theorem costD_ent {ds : List CoalDay} {ex : List Int} : ∀ k, ∀ p ∈ costD ds ex k, Ent ds ex p
  | 0 => fun p h => by cases h
  | k + 1 => by
    unfold costD
    cases hk : ds[k]? with
    | none => exact costD_ent k
    | some x => exact costW_ent hk (costD_ent k) 3 (by omega)
theorem look_val {ds : List CoalDay} {ex : List Int} {n d j : Nat} {c : Int} (h : lookL (costD ds ex n) (Coal_gust.mk (d : Int) (j : Int)) = some c) : ∃ x, ds[d]? = some x ∧ bitB x j = true ∧ j < 3 ∧ c = wr (x.Crosses * aget ex (j : Int)) := by
  unfold lookL at h
  obtain ⟨p, hp, rfl⟩ := Option.map_eq_some_iff.1 h
  have hk := List.find?_some hp
  have hk : p.1 = Coal_gust.mk (d : Int) (j : Int) := by simpa using hk
  obtain ⟨k, i, x, h1, h2, h3, h4, h5⟩ := costD_ent n p (List.mem_of_find?_eq_some hp)
  rw [h1] at hk
  have h6 := congrArg Coal_gust.day_ hk
  have h7 := congrArg Coal_gust.wind_ hk
  simp only at h6 h7
  obtain rfl : k = d := by omega
  obtain rfl : i = j := by omega
  exact ⟨x, h2, h3, h4, h5⟩
theorem val_look {ds : List CoalDay} {ex : List Int} {n d j : Nat} {x : CoalDay} (hx : ds[d]? = some x) (hb : bitB x j = true) (hj : j < 3) (hd : d < n) : lookL (costD ds ex n) (Coal_gust.mk (d : Int) (j : Int)) = some (wr (x.Crosses * aget ex (j : Int))) := by
  obtain ⟨v, hv⟩ := has_look (costD_has (ex := ex) hx hj hb n hd)
  obtain ⟨y, h1, _, _, h4⟩ := look_val hv
  rw [hx] at h1
  obtain rfl := Option.some.inj h1
  rw [hv, h4]
def E2 (e : List Int) : Prop := e.length = 2 ∧ ∀ x ∈ e, 0 ≤ x ∧ x ≤ 9
theorem blown_mk0 {q : Coal_book} {r w : Nat} {t u : Coal_truth} {d c cost : Int} (hw : w < 3) (hl : lookL q.costs_ (Coal_gust.mk d (w : Int)) = some cost) (hr : rightB q d ((bif t.collier_ == d then c + q.CoalBook.Brings else c) - eng q d t.eats_ - cost) = true)
    (hu : u ∈ blown q r (Coal_truth.mk t.eats_ t.collier_ (aset t.winds_ 6 d (w : Int)) (aset t.coal_ 6 d ((bif t.collier_ == d then c + q.CoalBook.Brings else c) - eng q d t.eats_ - cost))) (d + 1) ((bif t.collier_ == d then c + q.CoalBook.Brings else c) - eng q d t.eats_ - cost)) : u ∈ blown q (r + 1) t d c := by
  rw [blown]
  refine List.mem_flatMap.2 ⟨w, List.mem_range'_1.2 (by omega), ?_⟩
  rw [hl]
  simp only [blown.optL]
  rw [hr, cond_true]
  exact hu
theorem blown_rel {q q' : Coal_book} {n : Nat} (R : Int → Int → Prop) (hR : ∀ z z' c, R z z' → R (z + c) (z' + c)) (hB : q.CoalBook.Brings = q'.CoalBook.Brings) (d2 : q'.CoalBook.Dips = [])
    (step : ∀ d : Nat, d < n → ∀ (w : Nat) (cost : Int), lookL q.costs_ (Coal_gust.mk (d : Int) (w : Int)) = some cost → ∃ (w' : Nat) (cost' : Int), w' < 3 ∧ lookL q'.costs_ (Coal_gust.mk (d : Int) (w' : Int)) = some cost' ∧ ∀ e, E2 e → ∀ z z', R z z' → R (z - eng q d e - cost) (z' - eng q' d e - cost')) :
    ∀ (r : Nat) (t t' : Coal_truth) (d : Nat) (c c' : Int) (u : Coal_truth), d + r = n → n ≤ 6 → t.collier_ = t'.collier_ → t.eats_ = t'.eats_ → E2 t.eats_ → R c c' → (∀ k, k < d → R (coalAt k t) (coalAt k t')) → u ∈ blown q r t d c → ∃ u' ∈ blown q' r t' d c', ∀ k, k < n → R (coalAt k u) (coalAt k u') := by
  have hr : ∀ d x : Int, rightB q' d x = true := fun d x => by unfold rightB; rw [d2]; rfl
  intro r
  induction r with
  | zero =>
    intro t t' d c c' u h1 h2 h3 h4 h5 h6 h7 hu
    obtain rfl := List.mem_singleton.1 hu
    exact ⟨t', List.mem_singleton.2 rfl, fun k hk => h7 k (by omega)⟩
  | succ r ih =>
    intro t t' d c c' u h1 h2 h3 h4 h5 h6 h7 hu
    obtain ⟨w, cost, hw, hl, _, hu⟩ := blown_step hu
    obtain ⟨w', cost', hw', hl', hs⟩ := step d (by omega) w cost hl
    have hz : R (bif t.collier_ == (d : Int) then c + q.CoalBook.Brings else c) (bif t'.collier_ == (d : Int) then c' + q'.CoalBook.Brings else c') := by
      rw [h3, hB]
      cases (t'.collier_ == (d : Int)) with
      | true => exact hR _ _ _ h6
      | false => exact h6
    have hn := hs t.eats_ h5 _ _ hz
    generalize (bif t.collier_ == (d : Int) then c + q.CoalBook.Brings else c) - eng q d t.eats_ - cost = x at hn hu
    obtain ⟨u', hu', hk⟩ := ih (Coal_truth.mk t.eats_ t.collier_ (aset t.winds_ 6 d (w : Int)) (aset t.coal_ 6 d x)) (Coal_truth.mk t'.eats_ t'.collier_ (aset t'.winds_ 6 d (w' : Int)) (aset t'.coal_ 6 d ((bif t'.collier_ == (d : Int) then c' + q'.CoalBook.Brings else c') - eng q' d t'.eats_ - cost'))) (d + 1) x ((bif t'.collier_ == (d : Int) then c' + q'.CoalBook.Brings else c') - eng q' d t'.eats_ - cost') u (by omega) h2 h3 h4 h5 (by rw [← h4]; exact hn) (fun k hk => by
      unfold coalAt
      simp only
      rw [getD_aset (by omega), getD_aset (by omega)]
      by_cases hkd : k = d
      · rw [if_pos (by omega), if_pos (by omega), ← h4]; exact hn
      · rw [if_neg (by omega), if_neg (by omega)]; exact h7 k (by omega)) (by rw [show ((d + 1 : Nat) : Int) = (d : Int) + 1 by omega]; exact hu)
    refine ⟨u', ?_, hk⟩
    rw [show ((d + 1 : Nat) : Int) = (d : Int) + 1 by omega] at hu'
    exact blown_mk0 hw' hl' (hr _ _) hu'
theorem truths_rel {q q' : Coal_book} (Q : Op q) (R : Int → Int → Prop) (hR : ∀ z z' c, R z z' → R (z + c) (z' + c)) (h0 : ∀ z, R z z) (hH : q.CoalBook.Heap = q'.CoalBook.Heap) (hE : q.CoalBook.Eats = q'.CoalBook.Eats) (hC : q.CoalBook.Collier = q'.CoalBook.Collier) (hD : q.CoalBook.Days.length = q'.CoalBook.Days.length) (hB : q.CoalBook.Brings = q'.CoalBook.Brings) (d2 : q'.CoalBook.Dips = [])
    (step : ∀ d : Nat, d < q.CoalBook.Days.length → ∀ (w : Nat) (cost : Int), lookL q.costs_ (Coal_gust.mk (d : Int) (w : Int)) = some cost → ∃ (w' : Nat) (cost' : Int), w' < 3 ∧ lookL q'.costs_ (Coal_gust.mk (d : Int) (w' : Int)) = some cost' ∧ ∀ e, E2 e → ∀ z z', R z z' → R (z - eng q d e - cost) (z' - eng q' d e - cost'))
    {u : Coal_truth} (h : u ∈ truths q) : ∃ u' ∈ truths q', ∀ k, k < q.CoalBook.Days.length → R (coalAt k u) (coalAt k u') := by
  obtain ⟨hp, h1, o, h2, p, h3, c, h4, h⟩ := truth_mem.1 h
  have g2 := rng_mem.1 h2; have g3 := rng_mem.1 h3
  have he0 := Q.ea _ (agetS_mem (i := 0) (by rw [Q.el]; decide))
  have he1 := Q.ea _ (agetS_mem (i := 1) (by rw [Q.el]; decide))
  have m0 := he0.1.l0; have m1 := he0.2; have m2 := he1.1.l0; have m3 := he1.2
  obtain ⟨u', hu', hk⟩ := blown_rel R hR hB d2 step q.CoalBook.Days.length (init o p c) (init o p c) 0 hp hp u (by omega) Q.dn rfl rfl ⟨rfl, fun x hx => by
    simp [init] at hx
    rcases hx with rfl | rfl <;> omega⟩ (h0 _) (fun k hk => by omega) h
  refine ⟨u', truth_mem.2 ⟨hp, hH ▸ h1, o, hE ▸ h2, p, hE ▸ h3, c, hC ▸ h4, hD ▸ hu'⟩, hk⟩
def dayEng (x : CoalDay) (e : List Int) : Int := (bif (andI (shrI x.Engines 0) 1) == 1 then e.getD 0 0 * x.Crosses else 0) + (bif (andI (shrI x.Engines 1) 1) == 1 then e.getD 1 0 * x.Crosses else 0)
theorem eng_day {q : Coal_book} {d : Nat} {x : CoalDay} (h : q.CoalBook.Days[d]? = some x) (e : List Int) : eng q (d : Int) e = dayEng x e := by
  unfold eng
  rw [show ((d : Int)).toNat = d from rfl, h]; rfl
/-- a day that is as another one, or with fewer crossings, or calm -/
structure Easy (x y : CoalDay) : Prop where
  c0 : 0 ≤ y.Crosses
  cx : y.Crosses ≤ x.Crosses
  c9 : x.Crosses ≤ 9
  en : y.Engines = x.Engines
  wi : y.Winds = x.Winds ∨ y.Winds = 1
  wx : 1 ≤ x.Winds ∧ x.Winds ≤ 7
theorem eng_easy {x y : CoalDay} (h : Easy x y) {e : List Int} (he : E2 e) : dayEng y e ≤ dayEng x e := by
  obtain ⟨hl, hb⟩ := he
  match e, hl with
  | [a, b], _ =>
    have ha := hb a (by simp); have hb' := hb b (by simp)
    have m1 : a * y.Crosses ≤ a * x.Crosses := Int.mul_le_mul_of_nonneg_left h.cx ha.1
    have m2 : b * y.Crosses ≤ b * x.Crosses := Int.mul_le_mul_of_nonneg_left h.cx hb'.1
    unfold dayEng
    rw [h.en]
    simp only [show [a, b].getD 0 0 = a from rfl, show [a, b].getD 1 0 = b from rfl]
    cases (andI (shrI x.Engines 0) 1 == 1) <;> cases (andI (shrI x.Engines 1) 1 == 1) <;> simp only [cond_true, cond_false] <;> omega
theorem cost_easy {ex : List Int} (hex : ∀ j : Nat, j < 3 → 0 ≤ aget ex (j : Int) ∧ aget ex (j : Int) ≤ 9) {x y : CoalDay} (h : Easy x y) {j i : Nat} (hj : j < 3) (hi : i < 3) (hle : aget ex (j : Int) ≤ aget ex (i : Int)) : wr (y.Crosses * aget ex (j : Int)) ≤ wr (x.Crosses * aget ex (i : Int)) := by
  have h1 := hex j hj; have h2 := hex i hi
  have c0 := h.c0; have cx := h.cx; have c9 := h.c9
  have m1 : 0 ≤ y.Crosses * aget ex (j : Int) := Int.mul_nonneg c0 h1.1
  have m2 : y.Crosses * aget ex (j : Int) ≤ x.Crosses * aget ex (i : Int) := Int.mul_le_mul cx hle h1.1 (by omega)
  have m3 : x.Crosses * aget ex (i : Int) ≤ 9 * 9 := Int.mul_le_mul c9 h2.2 h2.1 (by omega)
  rw [wrI (by omega) (by omega), wrI (by omega) (by omega)]
  exact m2
theorem bit_zero {y : CoalDay} (h : y.Winds = 1) : bitB y 0 = true := by
  unfold bitB; rw [h]; decide
structure EasyB (b b' : CoalBook) : Prop where
  hH : b.Heap = b'.Heap
  hE : b.Eats = b'.Eats
  hC : b.Collier = b'.Collier
  hB : b.Brings = b'.Brings
  hX : b.Extra = b'.Extra
  d1 : b.Dips = []
  d2 : b'.Dips = []
  hD : b.Days.length = b'.Days.length
  ex : ∀ j : Nat, j < 3 → 0 ≤ aget b.Extra (j : Int) ∧ aget b.Extra (j : Int) ≤ 9
  e0 : ∀ j : Nat, j < 3 → aget b.Extra ((0 : Nat) : Int) ≤ aget b.Extra (j : Int)
  da : ∀ (d : Nat) (x : CoalDay), b.Days[d]? = some x → ∃ y, b'.Days[d]? = some y ∧ Easy x y
theorem EasyB.up {b b' : CoalBook} (h : EasyB b b') (V : Val b) (A : Arg b) {u : Coal_truth} (hu : u ∈ TT b) : ∃ u' ∈ TT b', ∀ k, k < b.Days.length → coalAt k u ≤ coalAt k u' := by
  refine truths_rel (q := opn b []) (q' := opn b' []) (opn_op V A []) (fun z z' => z ≤ z') (fun z z' c hz => by show z + c ≤ z' + c; have : z ≤ z' := hz; omega) (fun z => Int.le_refl z) h.hH h.hE h.hC h.hD h.hB (by show keepD b'.Dips [] b'.Dips.length = []; rw [h.d2]; rfl) (fun d hd w cost hl => ?_) hu
  obtain ⟨x, hx, hb, hw, rfl⟩ := look_val hl
  obtain ⟨y, hy, E⟩ := h.da d x hx
  have hlen : d < b'.Days.length := by have : d < b.Days.length := hd; have := h.hD; omega
  have fin : ∀ j : Nat, j < 3 → bitB y j = true → aget b.Extra (j : Int) ≤ aget b.Extra (w : Int) → ∃ (w' : Nat) (cost' : Int), w' < 3 ∧ lookL (opn b' []).costs_ (Coal_gust.mk (d : Int) (w' : Int)) = some cost' ∧ ∀ e, E2 e → ∀ z z', z ≤ z' → z - eng (opn b []) d e - wr (x.Crosses * aget b.Extra (w : Int)) ≤ z' - eng (opn b' []) d e - cost' := by
    intro j hj hbj hle
    refine ⟨j, _, hj, val_look (ex := b'.Extra) (n := b'.Days.length) hy hbj hj hlen, fun e he z z' hz => ?_⟩
    rw [eng_day (q := opn b []) hx e, eng_day (q := opn b' []) hy e, ← h.hX]
    have h1 := eng_easy E he
    have h2 := cost_easy h.ex E hj hw hle
    omega
  rcases E.wi with hw' | hw'
  · exact fin w hw (by unfold bitB at *; rw [hw']; exact hb) (Int.le_refl _)
  · exact fin 0 (by omega) (bit_zero hw') (h.e0 w hw)
end Go.Proofs.YticodohfokgjfaaDoor

set_option linter.unusedVariables false
set_option linter.unusedSimpArgs false
namespace Go.Proofs.YticodohfokgjfaaDoor
open Go Go.Fx
structure Less (L' L : List Coal_truth) : Prop where
  ne : L' ≠ []
  sub : ∀ t ∈ L', t ∈ L
theorem Less.kind {L' L : List Coal_truth} (h : Less L' L) (d : Nat) : kind L d = 1 ∨ kind L' d = kind L d := by
  unfold Proofs.YticodohfokgjfaaDoor.kind
  obtain ⟨x, hx⟩ := List.exists_mem_of_ne_nil _ h.ne
  cases ha : L.any (lastB d) with
  | false =>
    have n1 : ∀ t ∈ L, lastB d t = false := fun t ht => by
      have := List.any_eq_false.1 ha t ht
      simpa using this
    have e1 : L'.any (lastB d) = false := List.any_eq_false.2 fun t ht => by simp [n1 t (h.sub t ht)]
    have e2 : L'.all (lastB d) = false := by
      cases hb : L'.all (lastB d) with
      | false => rfl
      | true => have := List.all_eq_true.1 hb x hx; rw [n1 x (h.sub x hx)] at this; cases this
    have e3 : L.all (lastB d) = false := by
      cases hb : L.all (lastB d) with
      | false => rfl
      | true => have := List.all_eq_true.1 hb x (h.sub x hx); rw [n1 x (h.sub x hx)] at this; cases this
    rw [e1, e2, e3]; exact .inr rfl
  | true =>
    cases hb : L.all (lastB d) with
    | false => exact .inl rfl
    | true =>
      have e2 : L'.all (lastB d) = true := List.all_eq_true.2 fun t ht => List.all_eq_true.1 hb t (h.sub t ht)
      have e1 : L'.any (lastB d) = true := List.any_eq_true.2 ⟨x, hx, List.all_eq_true.1 e2 x hx⟩
      rw [e1, e2]; exact .inr rfl
theorem Less.order {L' L : List Coal_truth} (h : Less L' L) {len : Nat} {o p : Int} (O : OrderOf len L o) (P : OrderOf len L' p) : p ≤ o := by
  have := O.n0
  rcases P.is with e | ⟨k, hk, t, ht, e⟩
  · omega
  · have := O.ge k hk t (h.sub t ht); omega
end Go.Proofs.YticodohfokgjfaaDoor

set_option linter.unusedVariables false
set_option linter.unusedSimpArgs false
namespace Go.Proofs.YticodohfokgjfaaDoor
open Go Go.Fx
theorem keep_self (l : List CoalDip) : keepD l [] l.length = l := by rw [keepD_all _ (Nat.le_refl _), List.take_length]
end Go.Proofs.YticodohfokgjfaaDoor

set_option linter.unusedVariables false
set_option linter.unusedSimpArgs false
namespace Go.Proofs.YticodohfokgjfaaDoor
open Go Go.Fx
theorem fits_of {m bb : Nat} (h : m ≤ 1000000000) (hb : bb ≤ 100000) : fitsL m bb = true := by
  unfold fitsL
  refine decide_eq_true ?_
  have : m * bb ≤ 1000000000 * 100000 := Nat.mul_le_mul h hb
  omega
theorem grown_eq (l : List Int) (x : Int) (hl : l.length ≤ 1000) : B_Grown l x = some (l ++ [x]) := by
  unfold B_Grown
  have hw : (wr ((l.length : Int) + 1)).toNat = l.length + 1 := by rw [wrI (by omega) (by omega)]; omega
  have hd : l ++ List.drop l.length (List.replicate (l.length + 1) (0 : Int)) = l ++ [0] := by
    rw [List.drop_replicate, show l.length + 1 - l.length = 1 by omega]; rfl
  rw [need_of (by rw [wrI (by omega) (by omega)]; simp [inI]; omega), hw, need_of (by simp), hd, getI_ix (by simp), Option.bind_some]
  congr 1
  rw [show ((l.length : Int)).toNat = l.length from rfl]
  have : ∀ (l : List Int), (l ++ [0]).set l.length x = l ++ [x] := fun l => by
    induction l with
    | nil => rfl
    | cons y l ih => simp [ih]
  exact this l
/-- numbers from c on -/
def seg (c : Int) : Nat → List Int
  | 0 => []
  | e + 1 => c :: seg (c + 1) e
theorem seg_map (c : Int) (e : Nat) : ∀ k : Nat, (List.range' k e).map (fun (j : Nat) => c + j) = seg (c + k) e := by
  induction e with
  | zero => intro k; rfl
  | succ e ih =>
    intro k
    rw [List.range'_succ, List.map_cons, ih (k + 1), seg]
    congr 2
    omega
theorem rng_seg (s : Span) : rng s = seg s.Low (s.High - s.Low + 1).toNat := by
  have := seg_map s.Low (s.High - s.Low + 1).toNat 0
  unfold rng
  rw [this]; simp
/-- a loop that gathers -/
theorem rloop {α R : Type} {body : ((List α × Int) → Option R) → (List α × Int) → Option R} (lo hi : Int) (f : Int → List α) (K : List α → Option R) (T b : Nat)
    (hstep : ∀ rec out c, lo ≤ c → c ≤ hi → out.length + b ≤ T → body rec (out, c) = rec (out ++ f c, c + 1)) (hlen : ∀ c, lo ≤ c → c ≤ hi → (f c).length ≤ b) (hend : ∀ rec out c, hi < c → c ≤ hi + 1 → body rec (out, c) = K out) :
    ∀ (e m : Nat) (out : List α) (c : Int), lo ≤ c → c + e = hi + 1 → e < m → out.length + e * b ≤ T → loopF body m (out, c) = K (out ++ (seg c e).flatMap f) := by
  intro e
  induction e with
  | zero =>
    intro m out c h0 h1 h2 h3
    obtain ⟨m, rfl⟩ : ∃ q, m = q + 1 := ⟨m - 1, by omega⟩
    show body (loopF body m) (out, c) = _
    rw [hend _ _ _ (by omega) (by omega)]
    simp [seg]
  | succ e ih =>
    intro m out c h0 h1 h2 h3
    obtain ⟨m, rfl⟩ : ∃ q, m = q + 1 := ⟨m - 1, by omega⟩
    show body (loopF body m) (out, c) = _
    have hb : (e + 1) * b = e * b + b := Nat.succ_mul e b
    have hf := hlen c h0 (by omega)
    rw [hstep _ _ _ h0 (by omega) (by omega), ih m (out ++ f c) (c + 1) (by omega) (by omega) (by omega) (by rw [List.length_append]; omega), seg, List.flatMap_cons, List.append_assoc]
/-- a truth of the first n days, as the reference has it -/
def phi (n : Nat) (t : Coal_truth) : Ref06_truth := ⟨t.eats_, t.collier_, t.winds_.take n, t.coal_.take n⟩
theorem take_aset {l : List Int} {d : Nat} {x : Int} (hl : l.length = 6) (hd : d < 6) : (aset l 6 (d : Int) x).take (d + 1) = l.take d ++ [x] := by
  refine List.ext_getElem (by simp [aset, hl]; omega) fun i h1 h2 => ?_
  have hi : i < d + 1 := by simp [aset] at h1; omega
  rw [List.getElem_take]
  simp only [aset, List.getElem_map, List.getElem_range]
  by_cases h : i = d
  · subst h
    rw [List.getElem_append_right (by simp; omega)]
    simp
  · rw [if_neg (by simp; omega), List.getElem_append_left (by simp; omega), List.getElem_take, List.getD_eq_getElem?_getD, List.getElem?_eq_getElem (by omega)]
    rfl
theorem member_eq (a : Int) (k : Nat) : B_Member a (k : Int) = some ((andI (shrI a (k : Int)) 1) == 1) := by
  unfold B_Member
  rw [need_of (by simp)]
theorem eaten_eq {b : CoalBook} (V : Val b) (A : Arg b) {e : List Int} (he : E2 e) {d w : Nat} {x : CoalDay} (hx : b.Days[d]? = some x) (hw : w < 3) :
    ref_eaten b e d w = some (dayEng x e + wr (x.Crosses * aget b.Extra (w : Int))) ∧ 0 ≤ dayEng x e + wr (x.Crosses * aget b.Extra (w : Int)) ∧ dayEng x e + wr (x.Crosses * aget b.Extra (w : Int)) ≤ 1000 := by
  have hxm := List.mem_of_getElem? hx
  obtain ⟨⟨c0, c1⟩, _, _⟩ := dayB_iff (V.da x hxm)
  obtain ⟨hl, hb⟩ := he
  have hxl := A.xl
  have hX : 0 ≤ aget b.Extra (w : Int) ∧ aget b.Extra (w : Int) ≤ 9 := by
    have hw' : w < b.Extra.length := by omega
    have : aget b.Extra (w : Int) = b.Extra[w] := by simp [aget, List.getD_eq_getElem?_getD, hw']
    rw [this]; exact V.ex _ (List.getElem_mem hw')
  match e, hl with
  | [p, q], _ =>
    have hp := hb p (by simp); have hq := hb q (by simp)
    generalize hXe : aget b.Extra (w : Int) = X at hX
    generalize hC : x.Crosses = c at c0 c1
    have m1 : 0 ≤ c * X := Int.mul_nonneg c0 hX.1
    have m2 : c * X ≤ 9 * 9 := Int.mul_le_mul c1 hX.2 hX.1 (by omega)
    have m3 : 0 ≤ c * p := Int.mul_nonneg c0 hp.1
    have m4 : c * p ≤ 9 * 9 := Int.mul_le_mul c1 hp.2 hp.1 (by omega)
    have m5 : 0 ≤ c * q := Int.mul_nonneg c0 hq.1
    have m6 : c * q ≤ 9 * 9 := Int.mul_le_mul c1 hq.2 hq.1 (by omega)
    have eE : dayEng x [p, q] = (bif (andI (shrI x.Engines 0) 1) == 1 then c * p else 0) + (bif (andI (shrI x.Engines 1) 1) == 1 then c * q else 0) := by
      unfold dayEng
      rw [hC, Int.mul_comm c p, Int.mul_comm c q]; rfl
    generalize hg0 : (andI (shrI x.Engines 0) 1 == 1) = g0 at eE
    generalize hg1 : (andI (shrI x.Engines 1) 1 == 1) = g1 at eE
    have hd : d < b.Days.length := (List.getElem?_eq_some_iff.1 hx).1
    have hg : getI b.Days (d : Int) = some x := by rw [getI_ix hd]; congr 1; exact (List.getElem?_eq_some_iff.1 hx).2
    rw [eE, wrI (by omega) (by omega)]
    refine ⟨?_, ?_, ?_⟩
    · unfold ref_eaten
      rw [hg, Option.bind_some, need_of (by simp [inI]; omega), hXe]
      refine loop_fold0 (fun k => (X + (bif decide (1 ≤ k) && g0 then p else 0) + (bif decide (2 ≤ k) && g1 then q else 0), (k : Int))) 2 (fun rec k hk => ?_) (fun rec => ?_) (by rw [big_eq]; omega) (by simp)
      · unfold ref_eaten_l2
        match k, hk with
        | 0, _ =>
          simp only [show decide (((0 : Nat) : Int) < 2) = true by decide, cond_true, show (((0 : Nat) : Int)) = 0 from rfl]
          have := member_eq x.Engines 0
          simp only [show (((0 : Nat) : Int)) = 0 from rfl, hg0] at this
          rw [this, Option.bind_some]
          cases g0 with
          | true => rw [cond_true, need_of (by decide), wrI (by simp [aget]; omega) (by simp [aget]; omega)]; simp [aget]; rfl
          | false => simp; rfl
        | 1, _ =>
          simp only [show decide (((1 : Nat) : Int) < 2) = true by decide, cond_true, show (((1 : Nat) : Int)) = 1 from rfl]
          have := member_eq x.Engines 1
          simp only [show (((1 : Nat) : Int)) = 1 from rfl, hg1] at this
          rw [this, Option.bind_some]
          cases g1 with
          | true => cases g0 <;> (rw [cond_true, need_of (by decide), wrI (by simp [aget]; omega) (by simp [aget]; omega)]; simp [aget]; rfl)
          | false => cases g0 <;> (simp; rfl)
      · unfold ref_eaten_l2
        simp only [show decide (((2 : Nat) : Int) < 2) = false by decide, cond_false, show decide (1 ≤ 2) = true by decide, show decide (2 ≤ 2) = true by decide, Bool.true_and, hC]
        cases g0 <;> cases g1 <;> simp only [cond_true, cond_false, Int.add_zero, Int.zero_add, Int.mul_add] <;> (rw [wrI (by omega) (by omega)]; try (first | rfl | (congr 1; omega)))
    · cases g0 <;> cases g1 <;> simp only [cond_true, cond_false] <;> omega
    · cases g0 <;> cases g1 <;> simp only [cond_true, cond_false] <;> omega
theorem refRight_eq {b : CoalBook} (V : Val b) (A : Arg b) {q : Coal_book} (hq : q.CoalBook.Dips = b.Dips) (d n : Int) (h1 : -100000 ≤ n) (h2 : n ≤ 100000) : ref_right b d n = some (rightB q d n) := by
  have hp := V.pn
  unfold ref_right rightB
  rw [hq]
  have key : ∀ (e k m : Nat), k + e = b.Dips.length → e < m → loopF (ref_right_l1 b d n) m (k : Int) = some ((b.Dips.drop k).all fun x => !(x.Day == d) || inB (n - x.Read) (-x.Error) x.Error) := by
    intro e
    induction e with
    | zero =>
      intro k m h4 h5
      obtain ⟨m, rfl⟩ : ∃ q, m = q + 1 := ⟨m - 1, by omega⟩
      show ref_right_l1 b d n _ (k : Int) = _
      unfold ref_right_l1
      rw [decide_eq_false (by omega), cond_false, List.drop_eq_nil_of_le (by omega)]
      rfl
    | succ e ih =>
      intro k m h4 h5
      obtain ⟨m, rfl⟩ : ∃ q, m = q + 1 := ⟨m - 1, by omega⟩
      have ih2 := ih (k + 1) m (by omega) (by omega)
      show ref_right_l1 b d n (loopF (ref_right_l1 b d n) m) (k : Int) = _
      generalize loopF (ref_right_l1 b d n) m = rec at ih2
      have hk : k < b.Dips.length := by omega
      obtain ⟨_, g1, g2, g3⟩ := dipB_iff (V.di _ (List.getElem_mem hk))
      unfold ref_right_l1
      rw [decide_eq_true (by omega), cond_true, getI_ix hk, Option.bind_some, List.drop_eq_getElem_cons hk, List.all_cons, wrI (x := _ - n) (by omega) (by omega), wrI (x := -_) (by omega) (by omega), inside_eq, Option.bind_some, wrN (show k < b.Dips.length + 1 by omega) (by omega), ih2]
      have : inB (b.Dips[k].Read - n) (-b.Dips[k].Error) b.Dips[k].Error = inB (n - b.Dips[k].Read) (-b.Dips[k].Error) b.Dips[k].Error := by
        rw [Bool.eq_iff_iff, inB_iff, inB_iff]; omega
      rw [this]
      cases (b.Dips[k].Day == d) <;> cases inB (n - b.Dips[k].Read) (-b.Dips[k].Error) b.Dips[k].Error <;> rfl
  exact key b.Dips.length 0 big (by omega) (by rw [big_eq]; omega)
theorem blown_len (q : Coal_book) : ∀ (r : Nat) (t : Coal_truth) (d c : Int), (blown q r t d c).length ≤ 3 ^ r
  | 0, _, _, _ => by simp [blown]
  | r + 1, t, d, c => by
    rw [blown, show (List.range' 0 3) = [0, 1, 2] from rfl]
    have h : ∀ w : Nat, (blown.optL (lookL q.costs_ (Coal_gust.mk d (w : Int))) fun cost =>
      bif rightB q d ((bif t.collier_ == d then c + q.CoalBook.Brings else c) - eng q d t.eats_ - cost) then
        blown q r (Coal_truth.mk t.eats_ t.collier_ (aset t.winds_ 6 d (w : Int)) (aset t.coal_ 6 d ((bif t.collier_ == d then c + q.CoalBook.Brings else c) - eng q d t.eats_ - cost))) (d + 1) ((bif t.collier_ == d then c + q.CoalBook.Brings else c) - eng q d t.eats_ - cost)
      else []).length ≤ 3 ^ r := fun w => by
      cases lookL q.costs_ (Coal_gust.mk d (w : Int)) with
      | none => simp [blown.optL]
      | some cost =>
        simp only [blown.optL]
        cases rightB q d ((bif t.collier_ == d then c + q.CoalBook.Brings else c) - eng q d t.eats_ - cost) with
        | false => simp
        | true => exact blown_len q r _ _ _
    simp only [List.flatMap_cons, List.flatMap_nil, List.length_append, List.length_nil, Nat.pow_succ]
    have := h 0; have := h 1; have := h 2
    omega
end Go.Proofs.YticodohfokgjfaaDoor

set_option linter.unusedVariables false
set_option linter.unusedSimpArgs false
namespace Go.Proofs.YticodohfokgjfaaDoor
open Go Go.Fx
theorem gone_eq {b : CoalBook} (V : Val b) (A : Arg b) : ∀ (r : Nat) (t : Coal_truth) (d : Nat) (c : Int) (k : Nat), d + r = b.Days.length → r < k → -(1000 * ((d : Int) + 1)) ≤ c → c ≤ 1000 * ((d : Int) + 1) → E2 t.eats_ → t.winds_.length = 6 → t.coal_.length = 6 →
    ref_gone k b (phi d t) c = some ((blown (opn b []) r t d c).map (phi b.Days.length)) := by
  have hdn := V.dn; have hbr := V.br
  intro r
  induction r with
  | zero =>
    intro t d c k h1 h2 h3 h4 h5 h6 h7
    obtain ⟨k, rfl⟩ : ∃ q, k = q + 1 := ⟨k - 1, by omega⟩
    show ref_gone_F _ b (phi d t) c = some ([t].map (phi b.Days.length))
    unfold ref_gone_F
    rw [show (((phi d t).winds_.length : Int) == (b.Days.length : Int)) = true by simp [phi]; omega, cond_true, show d = b.Days.length by omega]
    rfl
  | succ r ih =>
    intro t d c k h1 h2 h3 h4 h5 h6 h7
    obtain ⟨k, rfl⟩ : ∃ q, k = q + 1 := ⟨k - 1, by omega⟩
    have hwl : (phi d t).winds_.length = d := by simp [phi]; omega
    have hcl : (phi d t).coal_.length = d := by simp [phi]; omega
    have hd : d < b.Days.length := by omega
    obtain ⟨x, hx⟩ : ∃ x, b.Days[d]? = some x := ⟨_, List.getElem?_eq_getElem hd⟩
    have hg : getI b.Days (d : Int) = some x := by rw [getI_ix hd]; congr 1; exact (List.getElem?_eq_some_iff.1 hx).2
    have hr6 : r ≤ 5 := by omega
    have h31 : 1 ≤ 3 ^ r := Nat.pos_of_ne_zero (by simp)
    have h36 : 3 ^ r ≤ 243 := Nat.le_trans (Nat.pow_le_pow_right (by omega) hr6) (by decide)
    have hE : eng (opn b []) (d : Int) t.eats_ = dayEng x t.eats_ := eng_day (q := opn b []) hx t.eats_
    have hD : (opn b []).CoalBook.Dips = b.Dips := keep_self b.Dips
    have main : ∀ z : Int, -(1000 * ((d : Int) + 1)) ≤ z → z ≤ 1000 * ((d : Int) + 1) + 400 → z = (bif t.collier_ == (d : Int) then c + (opn b []).CoalBook.Brings else c) →
        ref_gone_j4 b (phi d t) (fun x0_ x1_ x2_ => ref_gone k x0_ x1_ x2_) z = some ((blown (opn b []) (r + 1) t d c).map (phi b.Days.length)) := by
      intro z z1 z2 hz
      unfold ref_gone_j4
      rw [blown, ← hz, hE]
      have key : ∀ (e w m : Nat) (out : List Ref06_truth), w + e = 3 → e < m → out.length + e * 3 ^ r ≤ 1000 →
          loopF (ref_gone_l3 b (phi d t) z (fun x0_ x1_ x2_ => ref_gone k x0_ x1_ x2_)) m (out, (w : Int)) = some (out ++ ((List.range' w e).flatMap fun (w : Nat) => blown.optL (lookL (opn b []).costs_ (Coal_gust.mk (d : Int) (w : Int))) fun cost =>
            bif rightB (opn b []) d (z - dayEng x t.eats_ - cost) then blown (opn b []) r (Coal_truth.mk t.eats_ t.collier_ (aset t.winds_ 6 d (w : Int)) (aset t.coal_ 6 d (z - dayEng x t.eats_ - cost))) ((d : Int) + 1) (z - dayEng x t.eats_ - cost) else []).map (phi b.Days.length)) := by
        intro e
        induction e with
        | zero =>
          intro w m out g1 g2 g3
          obtain ⟨m, rfl⟩ : ∃ q, m = q + 1 := ⟨m - 1, by omega⟩
          show ref_gone_l3 b (phi d t) z _ _ (out, (w : Int)) = _
          unfold ref_gone_l3
          simp only
          rw [decide_eq_false (by omega), cond_false]
          simp
        | succ e ih2 =>
          intro w m out g1 g2 g3
          obtain ⟨m, rfl⟩ : ∃ q, m = q + 1 := ⟨m - 1, by omega⟩
          have hb3 : (e + 1) * 3 ^ r = e * 3 ^ r + 3 ^ r := Nat.succ_mul e _
          have ih3 := fun out => ih2 (w + 1) m out (by omega) (by omega)
          show ref_gone_l3 b (phi d t) z _ (loopF _ m) (out, (w : Int)) = _
          generalize loopF (ref_gone_l3 b (phi d t) z (fun x0_ x1_ x2_ => ref_gone k x0_ x1_ x2_)) m = rec at ih3
          have w0 : wr ((w : Int) + 1) = ((w + 1 : Nat) : Int) := by rw [wrI (by omega) (by omega)]; omega
          rw [List.range'_succ, List.flatMap_cons, List.map_append]
          unfold ref_gone_l3
          simp only [hwl]
          rw [decide_eq_true (by omega), cond_true, hg, Option.bind_some, member_eq, Option.bind_some, w0]
          cases hbit : (andI (shrI x.Winds (w : Int)) 1 == 1) with
          | false =>
            have hl : lookL (opn b []).costs_ (Coal_gust.mk (d : Int) (w : Int)) = none := by
              cases hl : lookL (opn b []).costs_ (Coal_gust.mk (d : Int) (w : Int)) with
              | none => rfl
              | some v =>
                obtain ⟨x', hx', hb', _⟩ := look_val hl
                rw [hx] at hx'; cases hx'
                unfold bitB at hb'
                rw [hbit] at hb'; cases hb'
            rw [hl]
            simp only [Bool.not_false, cond_true]
            rw [ih3 out (by omega)]
            rfl
          | true =>
            have hl : lookL (opn b []).costs_ (Coal_gust.mk (d : Int) (w : Int)) = some (wr (x.Crosses * aget b.Extra (w : Int))) := val_look hx hbit (by omega) (by omega)
            obtain ⟨e1, e2, e3⟩ := eaten_eq V A h5 hx (show w < 3 by omega)
            rw [hl]
            simp only [Bool.not_true, cond_false]
            have heats : (phi d t).eats_ = t.eats_ := rfl
            rw [heats, e1, Option.bind_some, wrI (x := z - _) (by omega) (by omega), show z - (dayEng x t.eats_ + wr (x.Crosses * aget b.Extra (w : Int))) = z - dayEng x t.eats_ - wr (x.Crosses * aget b.Extra (w : Int)) by omega]
            generalize hn : z - dayEng x t.eats_ - wr (x.Crosses * aget b.Extra (w : Int)) = n
            rw [refRight_eq V A hD (d : Int) n (by omega) (by omega), Option.bind_some]
            simp only [blown.optL, hn]
            cases hrt : rightB (opn b []) (d : Int) n with
            | false =>
              simp only [cond_false]
              rw [ih3 out (by omega)]
              rfl
            | true =>
              simp only [cond_true]
              rw [grown_eq _ _ (by omega), Option.bind_some, grown_eq _ _ (by omega), Option.bind_some]
              have hphi : Ref06_truth.mk t.eats_ (phi d t).collier_ ((phi d t).winds_ ++ [(w : Int)]) ((phi d t).coal_ ++ [n]) = phi (d + 1) (Coal_truth.mk t.eats_ t.collier_ (aset t.winds_ 6 (d : Int) (w : Int)) (aset t.coal_ 6 (d : Int) n)) := by
                unfold phi
                simp only
                rw [take_aset h6 (by omega), take_aset h7 (by omega)]
              have hih := ih (Coal_truth.mk t.eats_ t.collier_ (aset t.winds_ 6 (d : Int) (w : Int)) (aset t.coal_ 6 (d : Int) n)) (d + 1) n k (by omega) (by omega) (by omega) (by omega) h5 (by simp [aset]) (by simp [aset])
              rw [hphi, hih, Option.bind_some]
              have hbl := blown_len (opn b []) r (Coal_truth.mk t.eats_ t.collier_ (aset t.winds_ 6 (d : Int) (w : Int)) (aset t.coal_ 6 (d : Int) n)) ((d + 1 : Nat) : Int) n
              rw [show (((d + 1 : Nat) : Int)) = (d : Int) + 1 by omega] at hbl ⊢
              generalize blown (opn b []) r (Coal_truth.mk t.eats_ t.collier_ (aset t.winds_ 6 (d : Int) (w : Int)) (aset t.coal_ 6 (d : Int) n)) ((d : Int) + 1) n = L at hbl
              cases L with
              | nil =>
                simp only [List.map_nil, List.isEmpty_nil, cond_true]
                rw [ih3 out (by omega)]; rfl
              | cons u L =>
                rw [show (List.map (phi b.Days.length) (u :: L)).isEmpty = false from rfl, cond_false, need_of (fits_of (by rw [List.length_map]; omega) (by omega)), ih3 _ (by rw [List.length_append, List.length_map]; omega), List.append_assoc]
                rfl
      have := key 3 0 big [] (by omega) (by rw [big_eq]; omega) (by simp; omega)
      rw [List.nil_append] at this
      exact this
    show ref_gone_F _ b (phi d t) c = _
    unfold ref_gone_F
    rw [show (((phi d t).winds_.length : Int) == (b.Days.length : Int)) = false by rw [hwl, beq_eq_false_iff_ne]; omega, cond_false, hwl]
    have hB : (opn b []).CoalBook.Brings = b.Brings := rfl
    cases hc : (t.collier_ == (d : Int)) with
    | true =>
      rw [show ((phi d t).collier_ == (d : Int)) = true from hc, cond_true, wrI (by omega) (by omega)]
      exact main _ (by omega) (by omega) (by rw [hc, hB]; rfl)
    | false =>
      rw [show ((phi d t).collier_ == (d : Int)) = false from hc, cond_false]
      exact main _ (by omega) (by omega) (by rw [hc]; rfl)
theorem flatMap_len {α β : Type} (f : α → List β) (b : Nat) : ∀ (l : List α), (∀ x ∈ l, (f x).length ≤ b) → (l.flatMap f).length ≤ l.length * b
  | [], _ => by simp
  | x :: l, h => by
    have h1 := h x (List.mem_cons_self ..)
    have h2 := flatMap_len f b l fun y hy => h y (List.mem_cons_of_mem _ hy)
    rw [List.flatMap_cons, List.length_append, List.length_cons, Nat.succ_mul]
    omega
theorem fm_map {α β γ : Type} (P : β → γ) {f : α → List γ} {g : α → List β} {l l' : List α} (hl : l = l') (h : ∀ x, f x = (g x).map P) : l.flatMap f = (l'.flatMap g).map P := by
  subst hl
  rw [List.map_flatMap, show f = fun x => (g x).map P from funext h]
theorem seg_len (c : Int) : ∀ e, (seg c e).length = e
  | 0 => rfl
  | e + 1 => by rw [seg, List.length_cons, seg_len]
theorem refTruths_eq {b : CoalBook} (V : Val b) (A : Arg b) : ref_truths b = some ((TT b).map (phi b.Days.length)) := by
  have hdn := V.dn
  have Q := opn_op V A []
  have hH := sp_of V.hp (by omega); have hH2 := V.hp
  have hC := sp_of V.co (by omega); have hC2 := V.co
  have he0 := Q.ea _ (agetS_mem (i := 0) (by rw [Q.el]; decide))
  have he1 := Q.ea _ (agetS_mem (i := 1) (by rw [Q.el]; decide))
  have hE0 := V.ea _ (agetS_mem (l := b.Eats) (i := 0) (by rw [A.el]; decide))
  have hE1 := V.ea _ (agetS_mem (l := b.Eats) (i := 1) (by rw [A.el]; decide))
  have sp : ∀ {s : Span} {hi wide : Int}, spB s hi wide = true → 0 ≤ s.Low ∧ s.Low ≤ s.High ∧ s.High ≤ hi ∧ s.High - s.Low ≤ wide := fun {s hi wide} h => by
    unfold spB at h
    simp only [Bool.and_eq_true, decide_eq_true_eq] at h
    exact ⟨h.1.1.1, h.1.1.2, h.1.2, h.2⟩
  obtain ⟨p1, p2, p3, p4⟩ := sp hH2
  obtain ⟨c1, c2, c3, c4⟩ := sp hC2
  obtain ⟨o1, o2, o3, o4⟩ := sp hE0
  obtain ⟨r1, r2, r3, r4⟩ := sp hE1
  have g1 : ∀ h o p c : Int, 0 ≤ h → h ≤ 400 → 0 ≤ o → o ≤ 9 → 0 ≤ p → p ≤ 9 → ref_gone big b (Ref06_truth.mk [o, p] c ([] : List Int) ([] : List Int)) h = some ((blown (opn b []) b.Days.length (init o p c) 0 h).map (phi b.Days.length)) := fun h o p c h1 h2 h3 h4 h5 h6 => by
    have := gone_eq V A b.Days.length (init o p c) 0 h big (by omega) (by rw [big_eq]; omega) (by omega) (by omega) ⟨rfl, fun x hx => by
      simp [init] at hx
      rcases hx with rfl | rfl <;> omega⟩ rfl rfl
    exact this
  have bl : ∀ (t : Coal_truth) (d h : Int), (blown (opn b []) b.Days.length t d h).length ≤ 729 := fun t d h => Nat.le_trans (blown_len _ _ _ _ _) (Nat.le_trans (Nat.pow_le_pow_right (by omega) hdn.2) (by decide))
  let P := phi b.Days.length
  let f4 : Int → Int → Int → Int → List Ref06_truth := fun h o p c => (blown (opn b []) b.Days.length (init o p c) 0 h).map P
  let f3 : Int → Int → Int → List Ref06_truth := fun h o p => (seg b.Collier.Low (b.Collier.High - b.Collier.Low + 1).toNat).flatMap (f4 h o p)
  let f2 : Int → Int → List Ref06_truth := fun h o => (seg (agetS b.Eats (1 : Int)).Low ((agetS b.Eats (1 : Int)).High - (agetS b.Eats (1 : Int)).Low + 1).toNat).flatMap (f3 h o)
  let f1 : Int → List Ref06_truth := fun h => (seg (agetS b.Eats (0 : Int)).Low ((agetS b.Eats (0 : Int)).High - (agetS b.Eats (0 : Int)).Low + 1).toNat).flatMap (f2 h)
  have l4 : ∀ h o p c, (f4 h o p c).length ≤ 729 := fun h o p c => by simp only [f4, List.length_map]; exact bl _ _ _
  have l3 : ∀ h o p, (f3 h o p).length ≤ 2916 := fun h o p => by
    have := flatMap_len (f4 h o p) 729 (seg b.Collier.Low (b.Collier.High - b.Collier.Low + 1).toNat) fun x _ => l4 h o p x
    rw [seg_len] at this
    exact Nat.le_trans this (Nat.le_trans (Nat.mul_le_mul_right 729 (show (b.Collier.High - b.Collier.Low + 1).toNat ≤ 4 by omega)) (by decide))
  have l2 : ∀ h o, (f2 h o).length ≤ 8748 := fun h o => by
    have := flatMap_len (f3 h o) 2916 (seg (agetS b.Eats (1 : Int)).Low ((agetS b.Eats (1 : Int)).High - (agetS b.Eats (1 : Int)).Low + 1).toNat) fun x _ => l3 h o x
    rw [seg_len] at this
    exact Nat.le_trans this (Nat.le_trans (Nat.mul_le_mul_right 2916 (show ((agetS b.Eats (1 : Int)).High - (agetS b.Eats (1 : Int)).Low + 1).toNat ≤ 3 by omega)) (by decide))
  have l1 : ∀ h, (f1 h).length ≤ 26244 := fun h => by
    have := flatMap_len (f2 h) 8748 (seg (agetS b.Eats (0 : Int)).Low ((agetS b.Eats (0 : Int)).High - (agetS b.Eats (0 : Int)).Low + 1).toNat) fun x _ => l2 h x
    rw [seg_len] at this
    exact Nat.le_trans this (Nat.le_trans (Nat.mul_le_mul_right 8748 (show ((agetS b.Eats (0 : Int)).High - (agetS b.Eats (0 : Int)).Low + 1).toNat ≤ 3 by omega)) (by decide))
  have s4 : ∀ (h o p : Int) (z3 z2 z1 : List Ref06_truth) (rec3 : (List Ref06_truth × Int) → Option (List Ref06_truth)) (out : List Ref06_truth), 0 ≤ h → h ≤ 400 → 0 ≤ o → o ≤ 9 → 0 ≤ p → p ≤ 9 → out.length + 2916 ≤ 1000000 →
      loopF (ref_truths_l77 b (z2, o) (z3, p) (z1, h) rec3) big (out, b.Collier.Low) = rec3 (out ++ f3 h o p, p + 1) := by
    intro h o p z3 z2 z1 rec3 out h1 h2 h3 h4 h5 h6 hl
    refine rloop b.Collier.Low b.Collier.High (f4 h o p) (fun out => rec3 (out, p + 1)) 1000000 729 (fun rec out c hc0 hc hlen => ?_) (fun c _ _ => l4 h o p c) (fun rec out c hc _ => ?_) (b.Collier.High - b.Collier.Low + 1).toNat big out b.Collier.Low (Int.le_refl _) (by omega) (by rw [big_eq]; omega) (by omega)
    · unfold ref_truths_l77
      simp only
      rw [decide_eq_true (by omega), cond_true, g1 h o p c h1 h2 h3 h4 h5 h6, Option.bind_some, wrI (x := c + 1) (by omega) (by omega)]
      show (bif (f4 h o p c).isEmpty then rec (out, c + 1) else need (fitsL (out.length + (f4 h o p c).length) 72) (rec (out ++ f4 h o p c, c + 1))) = _
      have := l4 h o p c
      generalize f4 h o p c = L at this
      cases L with
      | nil => simp
      | cons u L => rw [show (u :: L).isEmpty = false from rfl, cond_false, need_of (fits_of (by omega) (by omega))]
    · unfold ref_truths_l77
      simp only
      rw [decide_eq_false (by omega), cond_false, wrI (by omega) (by omega)]
  have s3 : ∀ (h o : Int) (z2 z1 : List Ref06_truth) (rec2 : (List Ref06_truth × Int) → Option (List Ref06_truth)) (out : List Ref06_truth), 0 ≤ h → h ≤ 400 → 0 ≤ o → o ≤ 9 → out.length + 8748 ≤ 1000000 →
      loopF (ref_truths_l78 b (z2, o) (z1, h) rec2) big (out, (agetS b.Eats (1 : Int)).Low) = rec2 (out ++ f2 h o, o + 1) := by
    intro h o z2 z1 rec2 out h1 h2 h3 h4 hl
    refine rloop (agetS b.Eats (1 : Int)).Low (agetS b.Eats (1 : Int)).High (f3 h o) (fun out => rec2 (out, o + 1)) 1000000 2916 (fun rec out c hc0 hc hlen => ?_) (fun c _ _ => l3 h o c) (fun rec out c hc _ => ?_) _ big out _ (Int.le_refl _) (show _ + (((agetS b.Eats (1 : Int)).High - (agetS b.Eats (1 : Int)).Low + 1).toNat : Int) = _ by omega) (by rw [big_eq]; omega) (by omega)
    · unfold ref_truths_l78
      simp only
      rw [decide_eq_true (by omega), cond_true, s4 h o c out z2 z1 rec out h1 h2 h3 h4 (by omega) (by omega) (by omega)]
    · unfold ref_truths_l78
      simp only
      rw [decide_eq_false (by omega), cond_false, wrI (by omega) (by omega)]
  have s2 : ∀ (h : Int) (z1 : List Ref06_truth) (rec1 : (List Ref06_truth × Int) → Option (List Ref06_truth)) (out : List Ref06_truth), 0 ≤ h → h ≤ 400 → out.length + 26244 ≤ 1000000 →
      loopF (ref_truths_l79 b (z1, h) rec1) big (out, (agetS b.Eats (0 : Int)).Low) = rec1 (out ++ f1 h, h + 1) := by
    intro h z1 rec1 out h1 h2 hl
    refine rloop (agetS b.Eats (0 : Int)).Low (agetS b.Eats (0 : Int)).High (f2 h) (fun out => rec1 (out, h + 1)) 1000000 8748 (fun rec out c hc0 hc hlen => ?_) (fun c _ _ => l2 h c) (fun rec out c hc _ => ?_) _ big out _ (Int.le_refl _) (show _ + (((agetS b.Eats (0 : Int)).High - (agetS b.Eats (0 : Int)).Low + 1).toNat : Int) = _ by omega) (by rw [big_eq]; omega) (by omega)
    · unfold ref_truths_l79
      simp only
      rw [decide_eq_true (by omega), cond_true, s3 h c out z1 rec out h1 h2 (by omega) (by omega) (by omega)]
    · unfold ref_truths_l79
      simp only
      rw [decide_eq_false (by omega), cond_false, wrI (by omega) (by omega)]
  have s1 : ref_truths b = some ([] ++ (seg b.Heap.Low (b.Heap.High - b.Heap.Low + 1).toNat).flatMap f1) := by
    unfold ref_truths
    refine rloop b.Heap.Low b.Heap.High f1 (fun out => some out) 1000000 26244 (fun rec out c hc0 hc hlen => ?_) (fun c _ _ => l1 c) (fun rec out c hc _ => ?_) _ big [] _ (Int.le_refl _) (show _ + ((b.Heap.High - b.Heap.Low + 1).toNat : Int) = _ by omega) (by rw [big_eq]; omega) (by simp; omega)
    · unfold ref_truths_l80
      simp only
      rw [decide_eq_true (by omega), cond_true, s2 c out rec out (by omega) (by omega) (by omega)]
    · unfold ref_truths_l80
      simp only
      rw [decide_eq_false (by omega), cond_false]
  rw [s1, List.nil_append]
  congr 1
  exact fm_map P (rng_seg b.Heap).symm fun h => fm_map P (rng_seg (agetS b.Eats (0 : Int))).symm fun o => fm_map P (rng_seg (agetS b.Eats (1 : Int))).symm fun p => fm_map P (rng_seg b.Collier).symm fun c => rfl
end Go.Proofs.YticodohfokgjfaaDoor

set_option linter.unusedVariables false
set_option linter.unusedSimpArgs false
namespace Go.Proofs.YticodohfokgjfaaDoor
open Go Go.Fx
theorem okloop {α R : Type} (l : List α) (p : α → Bool) {body : ((Bool × Int) → Option R) → (Bool × Int) → Option R} (K : Bool → Option R) (h0 : ∀ rec i, body rec (false, i) = K false) (h1 : ∀ rec k (hk : k < l.length), body rec (true, (k : Int)) = rec (p l[k], ((k + 1 : Nat) : Int)))
    (h2 : ∀ rec, body rec (true, (l.length : Int)) = K true) (hn : l.length < big - 1) (ok : Bool) : loopF body big (ok, 0) = K (ok && l.all p) := by
  have key : ∀ (e k m : Nat) (ok : Bool), k + e = l.length → e < m → loopF body m (ok, (k : Int)) = K (ok && (l.drop k).all p) := by
    intro e
    induction e with
    | zero =>
      intro k m ok g1 g2
      obtain ⟨m, rfl⟩ : ∃ q, m = q + 1 := ⟨m - 1, by omega⟩
      show body (loopF body m) (ok, (k : Int)) = _
      cases ok with
      | false => exact h0 _ _
      | true =>
        rw [show k = l.length by omega, h2]; simp
    | succ e ih =>
      intro k m ok g1 g2
      obtain ⟨m, rfl⟩ : ∃ q, m = q + 1 := ⟨m - 1, by omega⟩
      show body (loopF body m) (ok, (k : Int)) = _
      cases ok with
      | false => exact h0 _ _
      | true =>
        have hk : k < l.length := by omega
        rw [h1 _ k hk, ih (k + 1) m _ (by omega) (by omega), List.drop_eq_getElem_cons hk, List.all_cons, Bool.true_and]
  have := key l.length 0 big ok (by omega) (by omega)
  exact this
def vB (s : Span) (hi : Int) : Bool := decide (0 ≤ s.Low) && decide (s.Low ≤ s.High) && decide (s.High ≤ hi)
theorem valid_eq (s : Span) (hi : Int) : B_Valid s 0 hi = some (vB s hi) := by
  unfold B_Valid vB
  by_cases h1 : 0 ≤ s.Low <;> by_cases h2 : s.Low ≤ s.High <;> by_cases h3 : s.High ≤ hi <;> simp [h1, h2, h3] <;> omega
theorem spB_vB (s : Span) (hi w : Int) : spB s hi w = (vB s hi && decide (s.High - s.Low ≤ w)) := rfl
theorem vB_iff {s : Span} {hi : Int} (h : vB s hi = true) : 0 ≤ s.Low ∧ s.Low ≤ s.High ∧ s.High ≤ hi := by
  unfold vB at h
  simp only [Bool.and_eq_true, decide_eq_true_eq] at h
  exact ⟨h.1.1, h.1.2, h.2⟩
theorem refDay_eq (x : CoalDay) : ref_day x = some (dayB x) := by
  unfold ref_day dayB
  simp only [inside_eq, Option.bind_some]
  cases inB x.Crosses 0 9 <;> cases inB x.Engines 1 3 <;> cases inB x.Winds 1 7 <;> rfl
theorem refIsDay_eq (b : CoalBook) (A : Arg b) (n : Int) : ref_isDay b n = some (inB n 0 ((b.Days.length : Int) - 1)) := by
  have := A.dl
  unfold ref_isDay
  rw [wrI (by omega) (by omega), inside_eq, Option.bind_some]
theorem refDip_eq (b : CoalBook) (A : Arg b) (x : CoalDip) : ref_dip b x = some (dipB b.Days.length x) := by
  unfold ref_dip dipB
  simp only [refIsDay_eq b A, inside_eq, Option.bind_some]
  cases inB x.Day 0 ((b.Days.length : Int) - 1) <;> cases inB x.Read 0 800 <;> cases inB x.Error 0 9 <;> rfl
theorem big_lt {n : Nat} (h : n ≤ 9223372036854775807) : n < big - 1 := by rw [big_eq]; omega
theorem refTail_eq (b : CoalBook) (A : Arg b) (ok : Bool) : ref_Check_j17 b ok = some (bif ok && b.Eats.all (spB · 9 2) && b.Extra.all (inB · 0 9) && b.Days.all dayB && b.Dips.all (dipB b.Days.length) then 0 else 60) := by
  have h1 := A.dl; have h2 := A.pl; have h3 := A.el; have h4 := A.xl
  have e9 : ∀ ok, ref_Check_j9 ok = some (bif ok then 0 else 60) := fun ok => by cases ok <;> rfl
  have e11 : ∀ ok, ref_Check_j11 b ok = some (bif ok && b.Dips.all (dipB b.Days.length) then 0 else 60) := fun ok => by
    unfold ref_Check_j11
    rw [okloop b.Dips (dipB b.Days.length) ref_Check_j9 (fun rec i => rfl) (fun rec k hk => ?_) (fun rec => ?_) (big_lt h2), e9]
    · unfold ref_Check_l10
      simp only [cond_true]
      rw [decide_eq_true (by omega), cond_true, getI_ix hk, Option.bind_some, refDip_eq b A, Option.bind_some, wrN hk h2]
    · unfold ref_Check_l10
      simp only [cond_true]
      rw [decide_eq_false (by omega), cond_false]
  have e13 : ∀ ok, ref_Check_j13 b ok = some (bif ok && b.Days.all dayB && b.Dips.all (dipB b.Days.length) then 0 else 60) := fun ok => by
    unfold ref_Check_j13
    rw [okloop b.Days dayB (ref_Check_j11 b) (fun rec i => rfl) (fun rec k hk => ?_) (fun rec => ?_) (big_lt h1), e11]
    · unfold ref_Check_l12
      simp only [cond_true]
      rw [decide_eq_true (by omega), cond_true, getI_ix hk, Option.bind_some, refDay_eq, Option.bind_some, wrN hk h1]
    · unfold ref_Check_l12
      simp only [cond_true]
      rw [decide_eq_false (by omega), cond_false]
  have e15 : ∀ ok, ref_Check_j15 b ok = some (bif ok && b.Extra.all (inB · 0 9) && b.Days.all dayB && b.Dips.all (dipB b.Days.length) then 0 else 60) := fun ok => by
    unfold ref_Check_j15
    rw [okloop b.Extra (inB · 0 9) (ref_Check_j13 b) (fun rec i => rfl) (fun rec k hk => ?_) (fun rec => ?_) (big_lt (by omega)), e13]
    · unfold ref_Check_l14
      simp only [cond_true]
      rw [decide_eq_true (by omega), cond_true, need_of (by simp [inI]; omega), inside_eq, Option.bind_some, wrN hk (by omega), show aget b.Extra (k : Int) = b.Extra[k] by simp [aget, List.getD_eq_getElem?_getD, hk]]
    · unfold ref_Check_l14
      simp only [cond_true]
      rw [decide_eq_false (by omega), cond_false]
  unfold ref_Check_j17
  rw [okloop b.Eats (spB · 9 2) (ref_Check_j15 b) (fun rec i => rfl) (fun rec k hk => ?_) (fun rec => ?_) (big_lt (by omega)), e15]
  · unfold ref_Check_l16
    simp only [cond_true]
    rw [decide_eq_true (by omega), cond_true, need_of (by simp [inI]; omega), valid_eq, Option.bind_some, wrN hk (by omega), show agetS b.Eats (k : Int) = b.Eats[k] by simp [agetS, List.getD_eq_getElem?_getD, hk], spB_vB]
    cases hv : vB b.Eats[k] 9 with
    | false => rfl
    | true =>
      obtain ⟨v1, v2, v3⟩ := vB_iff hv
      rw [cond_true, need_of (by simp [inI]; omega), need_of (by simp [inI]; omega), wrI (by omega) (by omega), Bool.true_and]
  · unfold ref_Check_l16
    simp only [cond_true]
    rw [decide_eq_false (by omega), cond_false]
theorem refCheck_eq (b : CoalBook) (A : Arg b) : ref_Check b = some (bif valB b then 0 else 60) := by
  have h1 := A.dl; have h2 := A.pl
  unfold ref_Check valB
  rw [valid_eq, Option.bind_some, spB_vB, spB_vB]
  cases hv : vB b.Heap 400 with
  | false => simp [refTail_eq b A]
  | true =>
    obtain ⟨v1, v2, v3⟩ := vB_iff hv
    rw [cond_true, wrI (by omega) (by omega), Bool.true_and]
    cases hw : decide (b.Heap.High - b.Heap.Low ≤ 4) with
    | false => simp [refTail_eq b A]
    | true =>
      rw [cond_true, inside_eq, Option.bind_some, Bool.true_and]
      cases hd : inB (b.Days.length : Int) 1 6 with
      | false => simp [refTail_eq b A]
      | true =>
        rw [cond_true, valid_eq, Option.bind_some, Bool.true_and]
        cases hc : vB b.Collier (b.Days.length : Int) with
        | false => simp [refTail_eq b A]
        | true =>
          obtain ⟨c1, c2, c3⟩ := vB_iff hc
          rw [cond_true, wrI (by omega) (by omega), Bool.true_and]
          cases hw2 : decide (b.Collier.High - b.Collier.Low ≤ 3) with
          | false => simp [refTail_eq b A]
          | true =>
            rw [cond_true, inside_eq, Option.bind_some, Bool.true_and]
            cases hb : inB b.Brings 0 400 with
            | false => simp [refTail_eq b A]
            | true => simp [refTail_eq b A]
abbrev PP (b : CoalBook) : List Ref06_truth := (TT b).map (phi b.Days.length)
theorem TT_len {b : CoalBook} (V : Val b) (A : Arg b) : (TT b).length ≤ 1000000 := by
  have hdn := V.dn
  have sp : ∀ {s : Span} {hi wide : Int}, spB s hi wide = true → s.High - s.Low ≤ wide := fun {s hi wide} h => by
    unfold spB at h
    simp only [Bool.and_eq_true, decide_eq_true_eq] at h
    exact h.2
  have hE0 := sp (V.ea _ (agetS_mem (l := b.Eats) (i := 0) (by rw [A.el]; decide)))
  have hE1 := sp (V.ea _ (agetS_mem (l := b.Eats) (i := 1) (by rw [A.el]; decide)))
  have hH := sp V.hp; have hC := sp V.co
  have rl : ∀ (s : Span) (k : Nat), s.High - s.Low + 1 ≤ k → (rng s).length ≤ k := fun s k h => by unfold rng; simp; omega
  have bl : ∀ (t : Coal_truth) (h : Int), (blown (opn b []) (opn b []).CoalBook.Days.length t 0 h).length ≤ 729 := fun t h => Nat.le_trans (blown_len _ _ _ _ _) (Nat.le_trans (Nat.pow_le_pow_right (by omega) (show (opn b []).CoalBook.Days.length ≤ 6 from hdn.2)) (by decide))
  unfold TT truths
  refine Nat.le_trans (flatMap_len _ 26244 _ fun h _ => ?_) (Nat.le_trans (Nat.mul_le_mul_right 26244 (rl _ 5 (by show b.Heap.High - b.Heap.Low + 1 ≤ _; omega))) (by decide))
  refine Nat.le_trans (flatMap_len _ 8748 _ fun o _ => ?_) (Nat.le_trans (Nat.mul_le_mul_right 8748 (rl _ 3 (by show (agetS b.Eats (0 : Int)).High - (agetS b.Eats (0 : Int)).Low + 1 ≤ _; omega))) (by decide))
  refine Nat.le_trans (flatMap_len _ 2916 _ fun p _ => ?_) (Nat.le_trans (Nat.mul_le_mul_right 2916 (rl _ 3 (by show (agetS b.Eats (1 : Int)).High - (agetS b.Eats (1 : Int)).Low + 1 ≤ _; omega))) (by decide))
  exact Nat.le_trans (flatMap_len _ 729 _ fun c _ => bl _ _) (Nat.le_trans (Nat.mul_le_mul_right 729 (rl _ 4 (by show b.Collier.High - b.Collier.Low + 1 ≤ _; omega))) (by decide))
theorem refAsked_eq {b : CoalBook} (V : Val b) (A : Arg b) : ref_asked b true = some (bif (TT b).isEmpty then ([], 62) else (PP b, 0)) := by
  unfold ref_asked
  rw [refCheck_eq b A, val_iff.2 V, Option.bind_some, refTruths_eq V A]
  simp only [cond_true, bne_self_eq_false, cond_false, Bool.not_true, Option.bind_some]
  rw [show PP b = (TT b).map (phi b.Days.length) from rfl]
  cases h : TT b with
  | nil => rfl
  | cons t L =>
    rw [show ((((t :: L).map (phi b.Days.length)).length : Int) == 0) = false by rw [beq_eq_false_iff_ne]; simp; omega]
    rfl
theorem refBad {b : CoalBook} (A : Arg b) (h : valB b = false) (ok : Bool) : ref_asked b ok = some ([], 60) := by
  unfold ref_asked
  rw [refCheck_eq b A, h]; rfl
theorem refAsk0 {b : CoalBook} (V : Val b) (A : Arg b) : ref_asked b false = some ([], 61) := by
  unfold ref_asked
  rw [refCheck_eq b A, val_iff.2 V]; rfl
theorem coalBad {b : CoalBook} (A : Arg b) (h : valB b = false) (ok : Bool) : ∃ q, coal_asked b ok = some (q, 60) := by
  unfold coal_asked
  rw [check_eq b A, h]; exact ⟨_, rfl⟩
theorem coalAsk0 {b : CoalBook} (V : Val b) (A : Arg b) : ∃ q, coal_asked b false = some (q, 61) := by
  unfold coal_asked
  rw [check_eq b A, val_iff.2 V]; exact ⟨_, rfl⟩
theorem phi_coal {q : Coal_book} {t : Coal_truth} (T : Tru q t) {n d : Nat} (hn : n ≤ 6) (hd : d < n) : getI (phi n t).coal_ (d : Int) = some (coalAt d t) := by
  have hl := T.cl
  unfold phi coalAt
  rw [getI_ix (by simp; omega), List.getElem_take, List.getD_eq_getElem?_getD, List.getElem?_eq_getElem (by omega)]
  rfl
theorem PP_get {b : CoalBook} {k : Nat} (h : k < (TT b).length) : getI (PP b) (k : Int) = some (phi b.Days.length (TT b)[k]) := by
  rw [getI_ix (by simpa using h), List.getElem_map]
end Go.Proofs.YticodohfokgjfaaDoor

set_option linter.unusedVariables false
set_option linter.unusedSimpArgs false
namespace Go.Proofs.YticodohfokgjfaaDoor
open Go Go.Fx
theorem TT_tru {b : CoalBook} (V : Val b) (A : Arg b) {k : Nat} (h : k < (TT b).length) : Tru (opn b []) (TT b)[k] := (truths_tru (opn_op V A []) (List.getElem_mem h)).1
theorem TT_pos {b : CoalBook} (h : (TT b).isEmpty = false) : 0 < (TT b).length := by
  cases h2 : TT b with
  | nil => rw [h2] at h; cases h
  | cons t L => simp
/-- a loop over a list, its place behind the state -/
theorem lloop {α σ R : Type} (l : List α) (g : σ → α → σ) {body : ((σ × Int) → Option R) → (σ × Int) → Option R} (K : σ → Option R) (hn : l.length ≤ 1000000) (hs : ∀ rec s k (h : k < l.length), body rec (s, (k : Int)) = rec (g s l[k], ((k + 1 : Nat) : Int))) (he : ∀ rec s, body rec (s, (l.length : Int)) = K s) (s : σ) : loopF body big (s, 0) = K (l.foldl g s) := by
  have key : ∀ (e k m : Nat) (s : σ), k + e = l.length → e < m → loopF body m (s, (k : Int)) = K ((l.drop k).foldl g s) := by
    intro e
    induction e with
    | zero =>
      intro k m s g1 g2
      obtain ⟨m, rfl⟩ : ∃ q, m = q + 1 := ⟨m - 1, by omega⟩
      show body (loopF body m) (s, (k : Int)) = _
      rw [show k = l.length by omega, he]; simp
    | succ e ih =>
      intro k m s g1 g2
      obtain ⟨m, rfl⟩ : ∃ q, m = q + 1 := ⟨m - 1, by omega⟩
      have hk : k < l.length := by omega
      show body (loopF body m) (s, (k : Int)) = _
      rw [hs _ _ _ hk, ih (k + 1) m _ (by omega) (by omega), List.drop_eq_getElem_cons hk, List.foldl_cons]
  exact key l.length 0 big s (by omega) (by rw [big_eq]; omega)
theorem nat_of {n : Int} {k : Nat} (h : inB n 0 ((k : Int) - 1) = true) : ∃ d : Nat, n = d ∧ d < k := by
  have := inB_iff.1 h
  exact ⟨n.toNat, by omega, by omega⟩
theorem kept_days (l : List CoalDay) (h : l.length ≤ 9223372036854775807) : B_KeptDays l l = some true := by
  unfold B_KeptDays
  rw [show ((l.length : Int) == (l.length : Int)) = true by simp]
  refine loop_fold0 (fun k => (true, (k : Int))) l.length (fun rec k hk => ?_) (fun rec => ?_) (by rw [big_eq]; omega) rfl
  · unfold B_KeptDays_l1
    simp only [cond_true]
    rw [decide_eq_true (by omega), cond_true, getI_ix hk, Option.bind_some, Option.bind_some, wrN hk h]
    simp
  · unfold B_KeptDays_l1
    simp only [cond_true]
    rw [decide_eq_false (by omega), cond_false]
theorem kept_dips (l : List CoalDip) (h : l.length ≤ 9223372036854775807) : B_KeptDips l l = some true := by
  unfold B_KeptDips
  rw [show ((l.length : Int) == (l.length : Int)) = true by simp]
  refine loop_fold0 (fun k => (true, (k : Int))) l.length (fun rec k hk => ?_) (fun rec => ?_) (by rw [big_eq]; omega) rfl
  · unfold B_KeptDips_l1
    simp only [cond_true]
    rw [decide_eq_true (by omega), cond_true, getI_ix hk, Option.bind_some, Option.bind_some, wrN hk h]
    simp
  · unfold B_KeptDips_l1
    simp only [cond_true]
    rw [decide_eq_false (by omega), cond_false]
theorem kept_eq (b : CoalBook) (A : Arg b) : B_KeptCoal b b = some true := by
  unfold B_KeptCoal
  simp [kept_days b.Days A.dl, kept_dips b.Dips A.pl]
/-- how long its lists can be -/
structure ArgW (b : CoalBook) : Prop where
  dw : b.Days.length * 24 ≤ 140737488355328
  pw : b.Dips.length * 24 ≤ 140737488355328
  el : b.Eats.length = 2
  xl : b.Extra.length = 3
theorem ArgW.arg {b : CoalBook} (W : ArgW b) : Arg b := ⟨by have := W.dw; omega, by have := W.pw; omega, W.el, W.xl⟩
theorem own_eq (b : CoalBook) (W : ArgW b) : B_OwnCoal b = some b := by
  unfold B_OwnCoal B_OwnDays B_OwnDips
  rw [need_of (by unfold fitsL; exact decide_eq_true W.dw), Option.bind_some, need_of (by unfold fitsL; exact decide_eq_true W.pw), Option.bind_some]
end Go.Proofs.YticodohfokgjfaaDoor

set_option linter.unusedVariables false
set_option linter.unusedSimpArgs false
namespace Go.Proofs.YticodohfokgjfaaDoor
open Go Go.Fx
theorem refLasts_at {q : Coal_book} {t : Coal_truth} (T : Tru q t) {n d : Nat} (hn : n ≤ 6) (hd : d < n) : ref_lasts (phi n t) d = some (lastB d t) := by
  unfold ref_lasts
  have key : ∀ (e k m : Nat), k + e = d + 1 → e < m → loopF (ref_lasts_l1 (d : Int) (phi n t)) m (k : Int) = some ((List.range' k e).all fun j => decide (0 ≤ coalAt j t)) := by
    intro e
    induction e with
    | zero =>
      intro k m g1 g2
      obtain ⟨m, rfl⟩ : ∃ q, m = q + 1 := ⟨m - 1, by omega⟩
      show ref_lasts_l1 (d : Int) (phi n t) _ (k : Int) = _
      unfold ref_lasts_l1
      rw [decide_eq_false (by omega), cond_false]
      rfl
    | succ e ih =>
      intro k m g1 g2
      obtain ⟨m, rfl⟩ : ∃ q, m = q + 1 := ⟨m - 1, by omega⟩
      show ref_lasts_l1 (d : Int) (phi n t) (loopF (ref_lasts_l1 (d : Int) (phi n t)) m) (k : Int) = _
      have ih2 := ih (k + 1) m (by omega) (by omega)
      generalize loopF (ref_lasts_l1 (d : Int) (phi n t)) m = rec at ih2
      unfold ref_lasts_l1
      rw [decide_eq_true (by omega), cond_true, phi_coal T hn (by omega), Option.bind_some, List.range'_succ, List.all_cons]
      by_cases h : coalAt k t < 0
      · rw [decide_eq_true h, cond_true, decide_eq_false (by omega), Bool.false_and]
      · rw [decide_eq_false h, cond_false, decide_eq_true (by omega), Bool.true_and, wrN (show k < d + 1 by omega) (by omega), ih2]
  have := key (d + 1) 0 big (by omega) (by rw [big_eq]; omega)
  rw [show ((0 : Nat) : Int) = 0 from rfl] at this
  rw [this, lastB, List.range_eq_range']
theorem count_kind {L : List Coal_truth} {d : Nat} (hL : L ≠ []) : ∃ c : Nat, c ≤ L.length ∧ L.foldl (fun (s : Int) t => bif lastB d t then s + 1 else s) 0 = (c : Int) ∧ (c = 0 ↔ L.any (lastB d) = false) ∧ (c = L.length ↔ L.all (lastB d) = true) := by
  have key : ∀ (L : List Coal_truth) (s : Nat), ∃ c : Nat, c ≤ L.length ∧ L.foldl (fun (s : Int) t => bif lastB d t then s + 1 else s) (s : Int) = ((s + c : Nat) : Int) ∧ (c = 0 ↔ L.any (lastB d) = false) ∧ (c = L.length ↔ L.all (lastB d) = true) := by
    intro L
    induction L with
    | nil => intro s; exact ⟨0, by simp, by simp, by simp, by simp⟩
    | cons t L ih =>
      intro s
      rw [List.foldl_cons, List.any_cons, List.all_cons]
      cases h : lastB d t with
      | true =>
        obtain ⟨c, h1, h2, h3, h4⟩ := ih (s + 1)
        refine ⟨c + 1, by simp; omega, ?_, by simp, ?_⟩
        · rw [cond_true, show (s : Int) + 1 = ((s + 1 : Nat) : Int) by omega, h2]; congr 1; omega
        · rw [Bool.true_and, ← h4]; simp
      | false =>
        obtain ⟨c, h1, h2, h3, h4⟩ := ih s
        refine ⟨c, by simp; omega, by rw [cond_false, h2], by rw [Bool.false_or]; exact h3, ?_⟩
        simp; omega
  obtain ⟨c, h1, h2, h3, h4⟩ := key L 0
  exact ⟨c, h1, by simpa using h2, h3, h4⟩
theorem refLasts_law {b : CoalBook} (V : Val b) (A : Arg b) {d : Nat} (hd : d < b.Days.length) : ref_Lasts b d = some (bif (TT b).isEmpty then (0, 62) else (kind (TT b) d, 0)) := by
  have hn := TT_len V A
  have hdn := V.dn
  unfold ref_Lasts
  rw [refIsDay_eq b A, Option.bind_some, dayIn hd, refAsked_eq V A, Option.bind_some]
  cases hL : (TT b).isEmpty with
  | true => rfl
  | false =>
    have hne : TT b ≠ [] := fun h2 => by rw [h2] at hL; cases hL
    simp only [cond_false, bne_self_eq_false]
    have bd : ∀ (l : List Coal_truth) (s : Int), l.foldl (fun (s : Int) t => bif lastB d t then s + 1 else s) s ≤ s + l.length ∧ s ≤ l.foldl (fun (s : Int) t => bif lastB d t then s + 1 else s) s := fun l => by
      induction l with
      | nil => intro s; simp
      | cons t l ih =>
        intro s
        rw [List.foldl_cons, List.length_cons]
        have := ih (bif lastB d t then s + 1 else s)
        cases h : lastB d t <;> rw [h] at this <;> simp only [cond_true, cond_false] at this ⊢ <;> omega
    obtain ⟨c, h1, h2, h3, h4⟩ := count_kind (d := d) hne
    have e := lloop (TT b) (fun (s : Int) t => bif lastB d t then wr (s + 1) else s) (body := ref_Lasts_l2 (PP b, 0) (d : Int)) (fun s => bif (s == 0) then some (0, 0) else bif (s == ((TT b).length : Int)) then some (2, 0) else some (1, 0)) hn (fun rec s k hk => by
      unfold ref_Lasts_l2
      simp only
      rw [decide_eq_true (by simp; omega), cond_true, PP_get hk, Option.bind_some, refLasts_at (TT_tru V A hk) hdn.2 hd, Option.bind_some, wrN hk (by omega)]
      cases lastB d (TT b)[k] <;> rfl) (fun rec s => by
      unfold ref_Lasts_l2
      simp only
      rw [decide_eq_false (by simp), cond_false, List.length_map]) 0
    have hw : (TT b).foldl (fun (s : Int) t => bif lastB d t then wr (s + 1) else s) 0 = (TT b).foldl (fun (s : Int) t => bif lastB d t then s + 1 else s) 0 := by
      have : ∀ (l : List Coal_truth) (s : Int), 0 ≤ s → s + l.length ≤ 2000000 → l.foldl (fun (s : Int) t => bif lastB d t then wr (s + 1) else s) s = l.foldl (fun (s : Int) t => bif lastB d t then s + 1 else s) s := fun l => by
        induction l with
        | nil => intro s _ _; rfl
        | cons t l ih =>
          intro s h1 h2
          rw [List.length_cons] at h2
          rw [List.foldl_cons, List.foldl_cons]
          cases h : lastB d t with
          | true => simp only [cond_true]; rw [wrI (by omega) (by omega)]; exact ih _ (by omega) (by omega)
          | false => simp only [cond_false]; exact ih _ (by omega) (by omega)
      exact this _ 0 (by omega) (by omega)
    rw [hw, h2] at e
    rw [e]
    unfold kind
    cases ha : (TT b).any (lastB d) with
    | false =>
      have hc := h3.2 ha
      have hall : (TT b).all (lastB d) = false := by
        cases hall : (TT b).all (lastB d) with
        | false => rfl
        | true => have := h4.2 hall; have := TT_pos hL; omega
      rw [hall, show (((c : Int)) == 0) = true by rw [beq_iff_eq]; omega]
      rfl
    | true =>
      have hc : c ≠ 0 := fun h => by rw [h3.1 h] at ha; cases ha
      rw [show (((c : Int)) == 0) = false by rw [beq_eq_false_iff_ne]; omega, cond_false]
      cases hall : (TT b).all (lastB d) with
      | true => rw [show (((c : Int)) == ((TT b).length : Int)) = true by rw [beq_iff_eq, h4.2 hall]]; rfl
      | false =>
        have hc2 : c ≠ (TT b).length := fun h => by rw [h4.1 h] at hall; cases hall
        rw [show (((c : Int)) == ((TT b).length : Int)) = false by rw [beq_eq_false_iff_ne]; omega]; rfl
theorem refDay_law {b : CoalBook} (V : Val b) (A : Arg b) {r : Int × Int} (h1 : TT b = [] → r = (0, 62)) (h2 : TT b ≠ [] → (∃ d : Nat, d < b.Days.length ∧ r = ((d : Int), 0) ∧ (∃ t ∈ TT b, coalAt d t < 0) ∧ ∀ k, k < d → ∀ t ∈ TT b, 0 ≤ coalAt k t) ∨ (r = (0, 4) ∧ ∀ k, k < b.Days.length → ∀ t ∈ TT b, 0 ≤ coalAt k t)) : ref_Day b = some r := by
  have hn := TT_len V A
  have hdn := V.dn
  unfold ref_Day
  rw [refAsked_eq V A, Option.bind_some]
  cases hL : (TT b).isEmpty with
  | true => rw [h1 (List.isEmpty_iff.1 hL)]; rfl
  | false =>
    have hne : TT b ≠ [] := fun h2 => by rw [h2] at hL; cases hL
    simp only [cond_false, bne_self_eq_false]
    -- one day
    have day : ∀ (d : Nat) (rec : Int → Option (Int × Int)), d < b.Days.length → loopF (ref_Day_l3 (PP b, 0) (d : Int) rec) big 0 = bif (TT b).any (fun t => decide (coalAt d t < 0)) then some ((d : Int), 0) else rec (wr ((d : Int) + 1)) := by
      intro d rec hd
      have key : ∀ (e k m : Nat), k + e = (TT b).length → e < m → loopF (ref_Day_l3 (PP b, 0) (d : Int) rec) m (k : Int) = bif ((TT b).drop k).any (fun t => decide (coalAt d t < 0)) then some ((d : Int), 0) else rec (wr ((d : Int) + 1)) := by
        intro e
        induction e with
        | zero =>
          intro k m g1 g2
          obtain ⟨m, rfl⟩ : ∃ q, m = q + 1 := ⟨m - 1, by omega⟩
          show ref_Day_l3 (PP b, 0) (d : Int) rec _ (k : Int) = _
          unfold ref_Day_l3
          rw [decide_eq_false (by simp; omega), cond_false, List.drop_eq_nil_of_le (by omega)]
          rfl
        | succ e ih =>
          intro k m g1 g2
          obtain ⟨m, rfl⟩ : ∃ q, m = q + 1 := ⟨m - 1, by omega⟩
          have hk : k < (TT b).length := by omega
          have ih2 := ih (k + 1) m (by omega) (by omega)
          show ref_Day_l3 (PP b, 0) (d : Int) rec (loopF (ref_Day_l3 (PP b, 0) (d : Int) rec) m) (k : Int) = _
          generalize loopF (ref_Day_l3 (PP b, 0) (d : Int) rec) m = rec2 at ih2
          unfold ref_Day_l3
          rw [decide_eq_true (by simp; omega), cond_true, PP_get hk, Option.bind_some, phi_coal (TT_tru V A hk) hdn.2 hd, Option.bind_some, List.drop_eq_getElem_cons hk, List.any_cons, wrN hk (by omega), ih2]
          cases decide (coalAt d (TT b)[k] < 0) <;> rfl
      have := key (TT b).length 0 big (by omega) (by rw [big_eq]; omega)
      exact this
    have main : ∀ (e k m : Nat), k + e = b.Days.length → e < m → (∀ j, j < k → ∀ t ∈ TT b, 0 ≤ coalAt j t) → loopF (ref_Day_l4 b (PP b, 0)) m (k : Int) = some r := by
      intro e
      induction e with
      | zero =>
        intro k m g1 g2 g3
        obtain ⟨m, rfl⟩ : ∃ q, m = q + 1 := ⟨m - 1, by omega⟩
        show ref_Day_l4 b (PP b, 0) _ (k : Int) = _
        unfold ref_Day_l4
        rw [decide_eq_false (by omega), cond_false]
        rcases h2 hne with ⟨d, hd, _, ⟨t, ht, hlt⟩, _⟩ | ⟨rfl, _⟩
        · have := g3 d (by omega) t ht; omega
        · rfl
      | succ e ih =>
        intro k m g1 g2 g3
        obtain ⟨m, rfl⟩ : ∃ q, m = q + 1 := ⟨m - 1, by omega⟩
        have ih2 := ih (k + 1) m (by omega) (by omega)
        show ref_Day_l4 b (PP b, 0) (loopF (ref_Day_l4 b (PP b, 0)) m) (k : Int) = _
        generalize loopF (ref_Day_l4 b (PP b, 0)) m = rec at ih2
        unfold ref_Day_l4
        rw [decide_eq_true (by omega), cond_true, day k rec (by omega), wrN (show k < b.Days.length by omega) (by omega)]
        cases ha : (TT b).any (fun t => decide (coalAt k t < 0)) with
        | true =>
          obtain ⟨t, ht, hlt⟩ := List.any_eq_true.1 ha
          have hlt := of_decide_eq_true hlt
          rw [cond_true]
          rcases h2 hne with ⟨d, hd, rfl, ⟨u, hu, hul⟩, hb⟩ | ⟨_, hb⟩
          · have h3 : ¬ k < d := fun h => by have := hb k h t ht; omega
            have h4 : ¬ d < k := fun h => by have := g3 d h u hu; omega
            rw [show d = k by omega]
          · have := hb k (by omega) t ht; omega
        | false =>
          rw [cond_false]
          refine ih2 fun j hj t ht => ?_
          by_cases hjk : j = k
          · subst hjk
            have := List.any_eq_false.1 ha t ht
            simp at this
            exact this
          · exact g3 j (by omega) t ht
    exact main b.Days.length 0 big (by omega) (by rw [big_eq]; omega) (fun j hj => by omega)
theorem refOrder_law {b : CoalBook} (V : Val b) (A : Arg b) {n : Int} (O : TT b ≠ [] → OrderOf b.Days.length (TT b) n) : ref_Order b = some (bif (TT b).isEmpty then (0, 62) else (n, 0)) := by
  have hn := TT_len V A
  have hdn := V.dn
  unfold ref_Order
  rw [refAsked_eq V A, Option.bind_some]
  cases hL : (TT b).isEmpty with
  | true => rfl
  | false =>
    have hne : TT b ≠ [] := fun h2 => by rw [h2] at hL; cases hL
    have O := O hne
    simp only [cond_false, bne_self_eq_false]
    -- what is gathered: at most n, at least what was seen
    have inner : ∀ (i : Nat) (rec : (Int × Int) → Option (Int × Int)) (s : Int) (hi : i < (TT b).length), 0 ≤ s → s ≤ n → (s = 0 ∨ s = n ∨ s < n) → ∃ s', s ≤ s' ∧ s' ≤ n ∧ (∀ k, k < b.Days.length → -coalAt k (TT b)[i] ≤ s') ∧ ∀ s0 : Int, loopF (ref_Order_l3 b (PP b, 0) (s0, (i : Int)) rec) big (s, 0) = rec (s', wr ((i : Int) + 1)) := by
      intro i rec s hi s0 s1 _
      have hmem := List.getElem_mem hi
      have key : ∀ (e k m : Nat) (s : Int), k + e = b.Days.length → e < m → 0 ≤ s → s ≤ n → ∃ s', s ≤ s' ∧ s' ≤ n ∧ (∀ j, k ≤ j → j < b.Days.length → -coalAt j (TT b)[i] ≤ s') ∧ ∀ s0 : Int, loopF (ref_Order_l3 b (PP b, 0) (s0, (i : Int)) rec) m (s, (k : Int)) = rec (s', wr ((i : Int) + 1)) := by
        intro e
        induction e with
        | zero =>
          intro k m s g1 g2 g3 g4
          obtain ⟨m, rfl⟩ : ∃ q, m = q + 1 := ⟨m - 1, by omega⟩
          refine ⟨s, Int.le_refl _, g4, fun j h1 h2 => by omega, fun s0 => ?_⟩
          show ref_Order_l3 b (PP b, 0) (s0, (i : Int)) rec _ (s, (k : Int)) = _
          unfold ref_Order_l3
          simp only
          rw [decide_eq_false (by omega), cond_false]
        | succ e ih =>
          intro k m s g1 g2 g3 g4
          obtain ⟨m, rfl⟩ : ∃ q, m = q + 1 := ⟨m - 1, by omega⟩
          have hc := O.ge k (by omega) _ hmem
          have hco := (TT_tru V A hi).co k (by show k < b.Days.length; omega)
          obtain ⟨s', i1, i2, i3, i4⟩ := ih (k + 1) m (if -coalAt k (TT b)[i] > s then -coalAt k (TT b)[i] else s) (by omega) (by omega) (by split <;> omega) (by split <;> omega)
          refine ⟨s', by split at i1 <;> omega, i2, fun j h1 h2 => ?_, fun s0 => ?_⟩
          · by_cases hj : j = k
            · subst hj; split at i1 <;> omega
            · exact i3 j (by omega) h2
          · show ref_Order_l3 b (PP b, 0) (s0, (i : Int)) rec (loopF _ m) (s, (k : Int)) = _
            have i5 := i4 s0
            generalize loopF (ref_Order_l3 b (PP b, 0) (s0, (i : Int)) rec) m = rec2 at i5
            unfold ref_Order_l3
            simp only
            rw [decide_eq_true (by omega), cond_true, PP_get hi, Option.bind_some, phi_coal (TT_tru V A hi) hdn.2 (by omega), Option.bind_some, wrI (x := -coalAt k (TT b)[i]) (by omega) (by omega), wrN (show k < b.Days.length by omega) (by omega), i5]
      obtain ⟨s', a1, a2, a3, a4⟩ := key b.Days.length 0 big s (by omega) (by rw [big_eq]; omega) s0 s1
      exact ⟨s', a1, a2, fun k hk => a3 k (by omega) hk, a4⟩
    have main : ∀ (e i m : Nat) (s : Int), i + e = (TT b).length → e < m → 0 ≤ s → s ≤ n → ∃ s', s ≤ s' ∧ s' ≤ n ∧ (∀ j (hj : j < (TT b).length), i ≤ j → ∀ k, k < b.Days.length → -coalAt k (TT b)[j] ≤ s') ∧ loopF (ref_Order_l4 (PP b, 0) b) m (s, (i : Int)) = some (s', 0) := by
      intro e
      induction e with
      | zero =>
        intro i m s g1 g2 g3 g4
        obtain ⟨m, rfl⟩ : ∃ q, m = q + 1 := ⟨m - 1, by omega⟩
        refine ⟨s, Int.le_refl _, g4, fun j hj h => by omega, ?_⟩
        show ref_Order_l4 (PP b, 0) b _ (s, (i : Int)) = _
        unfold ref_Order_l4
        simp only
        rw [decide_eq_false (by simp; omega), cond_false]
      | succ e ih =>
        intro i m s g1 g2 g3 g4
        obtain ⟨m, rfl⟩ : ∃ q, m = q + 1 := ⟨m - 1, by omega⟩
        have hi : i < (TT b).length := by omega
        obtain ⟨s1, a1, a2, a3, a4⟩ := inner i (loopF (ref_Order_l4 (PP b, 0) b) m) s hi g3 g4 (by omega)
        obtain ⟨s', b1, b2, b3, b4⟩ := ih (i + 1) m s1 (by omega) (by omega) (by omega) a2
        refine ⟨s', by omega, b2, fun j hj h k hk => ?_, ?_⟩
        · by_cases hji : j = i
          · subst hji; have := a3 k hk; omega
          · exact b3 j hj (by omega) k hk
        · show ref_Order_l4 (PP b, 0) b (loopF (ref_Order_l4 (PP b, 0) b) m) (s, (i : Int)) = _
          have a5 := a4 s
          generalize loopF (ref_Order_l4 (PP b, 0) b) m = rec at a5 b4
          unfold ref_Order_l4
          simp only
          rw [decide_eq_true (by simp; omega), cond_true, a5, wrN hi (by omega)]
          exact b4
    obtain ⟨s', a1, a2, a3, a4⟩ := main (TT b).length 0 big 0 (by omega) (by rw [big_eq]; omega) (by omega) O.n0
    have : s' = n := by
      rcases O.is with h | ⟨k, hk, t, ht, h⟩
      · omega
      · obtain ⟨j, hj, rfl⟩ := List.getElem_of_mem ht
        have := a3 j hj (by omega) k hk
        omega
    rw [this] at a4
    exact a4
theorem refLate_law {b : CoalBook} (V : Val b) (A : Arg b) {r : Int × Int} (h1 : TT b = [] → r = (0, 62)) (h2 : TT b ≠ [] → ∃ m : Int, r = (bif m == b.Collier.Low then (0, 4) else (m - 1, 0)) ∧ b.Collier.Low ≤ m ∧ m ≤ b.Collier.High + 1 ∧ (m = b.Collier.High + 1 ∨ ∃ t ∈ TT b, lastB (b.Days.length - 1) t = false ∧ t.collier_ = m) ∧ ∀ t ∈ TT b, lastB (b.Days.length - 1) t = false → m ≤ t.collier_) : ref_Late b = some r := by
  have hn := TT_len V A
  have hdn := V.dn
  have hc := co_iff V
  unfold ref_Late
  rw [refAsked_eq V A, Option.bind_some]
  cases hL : (TT b).isEmpty with
  | true => rw [h1 (List.isEmpty_iff.1 hL)]; rfl
  | false =>
    have hne : TT b ≠ [] := fun h2 => by rw [h2] at hL; cases hL
    obtain ⟨m, rfl, m1, m2, m3, m4⟩ := h2 hne
    simp only [cond_false, bne_self_eq_false]
    have inner : ∀ (z : Int) (rec : Int → Option (Int × Int)), loopF (ref_Late_l4 (PP b, 0) z b rec) big (true, 0) = bif (TT b).foldl (fun s t => s && (decide (t.collier_ > z) || lastB (b.Days.length - 1) t)) true then some (z, 0) else rec (wr (z - 1)) := by
      intro z rec
      refine lloop (TT b) (fun s t => s && (decide (t.collier_ > z) || lastB (b.Days.length - 1) t)) (fun s => bif s then some (z, 0) else rec (wr (z - 1))) hn (fun rec2 s k hk => ?_) (fun rec2 s => ?_) true
      · unfold ref_Late_l4
        simp only
        rw [decide_eq_true (by simp; omega), cond_true, wrN hk (by omega), PP_get hk]
        cases s with
        | false => rfl
        | true =>
          rw [cond_true, Option.bind_some, show (phi b.Days.length (TT b)[k]).collier_ = (TT b)[k].collier_ from rfl, Bool.true_and]
          cases hd : decide ((TT b)[k].collier_ > z) with
          | true => rfl
          | false =>
            have hl := refLasts_at (TT_tru V A hk) (n := b.Days.length) (d := b.Days.length - 1) hdn.2 (by omega)
            rw [cond_false, Option.bind_some, wrI (by omega) (by omega), show (b.Days.length : Int) - 1 = ((b.Days.length - 1 : Nat) : Int) by omega, hl, Option.bind_some, Bool.false_or]
      · unfold ref_Late_l4
        simp only
        rw [decide_eq_false (by simp), cond_false]
    have all_ : ∀ (z : Int) (L : List Coal_truth) (s : Bool), L.foldl (fun s t => s && (decide (t.collier_ > z) || lastB (b.Days.length - 1) t)) s = (s && L.all fun t => decide (t.collier_ > z) || lastB (b.Days.length - 1) t) := fun z L => by
      induction L with
      | nil => intro s; simp
      | cons t L ih => intro s; rw [List.foldl_cons, ih, List.all_cons, Bool.and_assoc]
    have main : ∀ (e f : Nat) (z : Int), z + 1 = m + e → e < f → z ≤ b.Collier.High → loopF (ref_Late_l5 b (PP b, 0)) f z = some (bif m == b.Collier.Low then (0, 4) else (m - 1, 0)) := by
      intro e
      induction e with
      | zero =>
        intro f z g1 g2 g3
        obtain ⟨f, rfl⟩ : ∃ q, f = q + 1 := ⟨f - 1, by omega⟩
        show ref_Late_l5 b (PP b, 0) _ z = _
        unfold ref_Late_l5
        by_cases hm : m = b.Collier.Low
        · rw [decide_eq_false (by omega), cond_false, show (m == b.Collier.Low) = true by rw [beq_iff_eq]; exact hm]; rfl
        · rw [decide_eq_true (by omega), cond_true, inner, all_, show (m == b.Collier.Low) = false by rw [beq_eq_false_iff_ne]; exact hm, Bool.true_and]
          have : ((TT b).all fun t => decide (t.collier_ > z) || lastB (b.Days.length - 1) t) = true := by
            rw [List.all_eq_true]
            intro t ht
            cases hl : lastB (b.Days.length - 1) t with
            | true => simp
            | false => have := m4 t ht hl; simp; omega
          rw [this, cond_true, cond_false, show z = m - 1 by omega]
      | succ e ih =>
        intro f z g1 g2 g3
        obtain ⟨f, rfl⟩ : ∃ q, f = q + 1 := ⟨f - 1, by omega⟩
        have ih2 := ih f (z - 1) (by omega) (by omega) (by omega)
        show ref_Late_l5 b (PP b, 0) (loopF (ref_Late_l5 b (PP b, 0)) f) z = _
        generalize loopF (ref_Late_l5 b (PP b, 0)) f = rec at ih2
        unfold ref_Late_l5
        rw [decide_eq_true (by omega), cond_true, inner, all_, Bool.true_and]
        have : ((TT b).all fun t => decide (t.collier_ > z) || lastB (b.Days.length - 1) t) = false := by
          rcases m3 with m3 | ⟨t, ht, hl, hm⟩
          · omega
          · rw [List.all_eq_false]
            exact ⟨t, ht, by simp [hl]; omega⟩
        rw [this, cond_false, wrI (by omega) (by omega)]
        exact ih2
    exact main (b.Collier.High + 1 - m).toNat big b.Collier.High (by omega) (by rw [big_eq]; omega) (by omega)
theorem lasts_same (b : CoalBook) (A : Arg b) (n : Int) : ∃ r, coal_Lasts b n = some r ∧ ref_Lasts b n = some r := by
  cases h : valB b with
  | false =>
    obtain ⟨q, hq⟩ := coalBad A h (inB n 0 ((b.Days.length : Int) - 1))
    refine ⟨(0, 60), ?_, ?_⟩
    · unfold coal_Lasts; rw [isDay_eq b A, Option.bind_some, hq]; rfl
    · unfold ref_Lasts; rw [refIsDay_eq b A, Option.bind_some, refBad A h]; rfl
  | true =>
    have V := val_iff.1 h
    cases hi : inB n 0 ((b.Days.length : Int) - 1) with
    | true =>
      obtain ⟨d, rfl, hd⟩ := nat_of hi
      exact ⟨_, lasts_law V A hd, refLasts_law V A hd⟩
    | false =>
      obtain ⟨q, hq⟩ := coalAsk0 V A
      refine ⟨(0, 61), ?_, ?_⟩
      · unfold coal_Lasts; rw [isDay_eq b A, Option.bind_some, hi, hq]; rfl
      · unfold ref_Lasts; rw [refIsDay_eq b A, Option.bind_some, hi, refAsk0 V A]; rfl
theorem day_same (b : CoalBook) (A : Arg b) : ∃ r, coal_Day b = some r ∧ ref_Day b = some r := by
  cases h : valB b with
  | false =>
    obtain ⟨q, hq⟩ := coalBad A h true
    refine ⟨(0, 60), ?_, ?_⟩
    · unfold coal_Day; rw [hq]; rfl
    · unfold ref_Day; rw [refBad A h]; rfl
  | true =>
    obtain ⟨r, h1, h2, h3⟩ := day_law (val_iff.1 h) A
    exact ⟨r, h1, refDay_law (val_iff.1 h) A h2 h3⟩
theorem order_same (b : CoalBook) (A : Arg b) : ∃ r, coal_Order b = some r ∧ ref_Order b = some r := by
  cases h : valB b with
  | false =>
    obtain ⟨q, hq⟩ := coalBad A h true
    refine ⟨(0, 60), ?_, ?_⟩
    · unfold coal_Order; rw [hq]; rfl
    · unfold ref_Order; rw [refBad A h]; rfl
  | true =>
    obtain ⟨n, h1, h2⟩ := order_law (val_iff.1 h) A
    exact ⟨_, h1, refOrder_law (val_iff.1 h) A h2⟩
theorem late_same (b : CoalBook) (A : Arg b) : ∃ r, coal_Late b = some r ∧ ref_Late b = some r := by
  cases h : valB b with
  | false =>
    obtain ⟨q, hq⟩ := coalBad A h true
    refine ⟨(0, 60), ?_, ?_⟩
    · unfold coal_Late; rw [hq]; rfl
    · unfold ref_Late; rw [refBad A h]; rfl
  | true =>
    obtain ⟨r, h1, h2, h3⟩ := late_law (val_iff.1 h) A
    exact ⟨r, h1, refLate_law (val_iff.1 h) A h2 h3⟩
theorem days_eq (b : CoalBook) (A : Arg b) (n : Int) : law_coalDays b b n = some true := by
  obtain ⟨r1, a1, c1⟩ := lasts_same b A n
  obtain ⟨r2, a2, c2⟩ := day_same b A
  obtain ⟨r3, a3, c3⟩ := order_same b A
  obtain ⟨r4, a4, c4⟩ := late_same b A
  unfold law_coalDays
  simp only [a1, c1, a2, c2, a3, c3, a4, c4, Option.bind_some, bne_self_eq_false, cond_false, beq_self_eq_true, cond_true]
end Go.Proofs.YticodohfokgjfaaDoor

set_option linter.unusedVariables false
set_option linter.unusedSimpArgs false
namespace Go.Proofs.YticodohfokgjfaaDoor
open Go Go.Fx Go.Proofs
def law_CoalDays (a0 : CoalBook) (a1 : Int) : Option Bool :=
  (B_OwnCoal a0).bind fun r12 =>
  (law_coalDays r12 a0 a1).bind fun r30 =>
  bif r30 then ((B_KeptCoal r12 a0).bind fun r35 =>
  bif r35 then ((law_stoked).bind fun r40 =>
  some r40)
  else (some false))
  else (some false)

set_option maxRecDepth 100000 in
theorem law_CoalDays_ok {a0 : CoalBook} {a1 : Int} {A1 : Option Addr} {c2 : Nat} {A4 : Option Addr} {c5 : Nat} {w : World} {r : Bool} (H : law_CoalDays a0 a1 = some r) (h3 : (rd eCoalDay 3 A1 c2 a0.Days).ok w) (h6 : (rd eCoalDip 3 A4 c5 a0.Dips).ok w) (hg7 : (bl 0 [Value.func (.func 128) #[] #[], Value.func (.func 129) #[] #[]] 110).ok w) (hg8 : (bl 1 [I (-1), I (-1)] 123).ok w) : Calls Tryd.prog 4 #[AG ([I a0.Heap.Low, I a0.Heap.High] ++ (sgE eSpan a0.Eats 2 ++ (sg a0.Extra 3 ++ [SL A1 a0.Days.length c2, I a0.Collier.Low, I a0.Collier.High, I a0.Brings, SL A4 a0.Dips.length c5]))), I a1] w (RetV w (B r)) := by
  unfold law_CoalDays at H
  refine fn_of (n := 20) Tryd.func4 rfl rfl (Nat.le_of_ble_eq_true rfl) ?_
  have S : St w (fun _ => False) w [] [rd eCoalDay 3 A1 c2 a0.Days, rd eCoalDip 3 A4 c5 a0.Dips, bl 0 [Value.func (.func 128) #[] #[], Value.func (.func 129) #[] #[]] 110, bl 1 [I (-1), I (-1)] 123] := St.start w _ _ (List.forall_mem_cons.2 ⟨h3, (List.forall_mem_cons.2 ⟨h6, (List.forall_mem_cons.2 ⟨hg7, (List.forall_mem_cons.2 ⟨hg8, (fun _ h_ => (List.not_mem_nil h_).elim)⟩)⟩)⟩)⟩)
  refine c_seq ?_
  refine reg ?_
  refine p_boxA rfl S fun b9 w10 S11 => ?_
  refine p_aB rfl ?_
  refine wp_nil ?_
  refine c_seq ?_
  refine reg ?_
  refine p_ldA ty29 sz29 (S11.atX (i := 0) rfl) rfl rfl ?_
  obtain ⟨r12, h13, H⟩ := bindS H
  refine p_cal (B_OwnCoal_ok h13 (S11.atP (i := 0) rfl) (S11.atP (i := 1) rfl)) fu16 rfl ?_
  rintro _ w14 ⟨A16, c17, A18, c19, rfl, k15, ⟨o20, n21⟩, ⟨o22, n23⟩, _⟩
  have S24 := S11.callN k15 [rd eCoalDay 3 A16 c17 r12.Days, rd eCoalDip 3 A18 c19 r12.Dips] (List.forall_mem_cons.2 ⟨⟨o20, New.inL n21⟩, (List.forall_mem_cons.2 ⟨⟨o22, New.inL n23⟩, (fun _ h_ => (List.not_mem_nil h_).elim)⟩)⟩)
  refine p_allA in29 S24 fun b25 w26 S27 => ?_
  refine p_stP (pre := []) (old := [I 0, I 0, I 0, I 0, I 0, I 0] ++ (sg (List.replicate 3 0) 3 ++ [SL none 0 0, I 0, I 0, I 0, SL none 0 0])) (post := []) (vs := [I r12.Heap.Low, I r12.Heap.High] ++ (sgE eSpan r12.Eats 2 ++ (sg r12.Extra 3 ++ [SL A16 r12.Days.length c17, I r12.Collier.Low, I r12.Collier.High, I r12.Brings, SL A18 r12.Dips.length c19]))) sz29 S27 (i := 0) rfl rfl rfl rfl (rfl : _ = AG ([I r12.Heap.Low, I r12.Heap.High] ++ (sgE eSpan r12.Eats 2 ++ (sg r12.Extra 3 ++ [SL A16 r12.Days.length c17, I r12.Collier.Low, I r12.Collier.High, I r12.Brings, SL A18 r12.Dips.length c19])))) rfl rfl rfl rfl fun w28 S29 => ?_
  refine wp_nil ?_
  refine c_seq ?_
  refine reg ?_
  refine p_ldA ty29 sz29 (S29.atX (i := 0) rfl) rfl rfl ?_
  refine p_ldA ty29 sz29 (S29.atX (i := 1) rfl) rfl rfl ?_
  refine p_mI rfl ?_
  obtain ⟨r30, h31, H⟩ := bindS H
  refine p_cv (law_coalDays_ok h31 (S29.atP (i := 0) rfl) (S29.atP (i := 1) rfl) (S29.atP (i := 2) rfl) (S29.atP (i := 3) rfl) (S29.atP (i := 4) rfl) (S29.atP (i := 5) rfl)) fu20 rfl S29 fun w32 S33 => ?_
  refine p_mB rfl ?_
  rcases Bool.eq_false_or_eq_true (r30) with c34 | c34
  · replace H := condT c34 H
    refine eB c34 ?_
    refine gT rfl rfl (p_ldA ty29 sz29 (S33.atX (i := 0) rfl) rfl rfl ?_)
    refine gT rfl rfl (p_ldA ty29 sz29 (S33.atX (i := 1) rfl) rfl rfl ?_)
    obtain ⟨r35, h36, H⟩ := bindS H
    refine gT rfl rfl (p_cv (B_KeptCoal_ok h36 (S33.atP (i := 0) rfl) (S33.atP (i := 1) rfl) (S33.atP (i := 2) rfl) (S33.atP (i := 3) rfl)) fu18 rfl S33 fun w37 S38 => ?_)
    refine p_pkT rfl (rfl : _ = B r35) ?_
    refine p_mB rfl ?_
    rcases Bool.eq_false_or_eq_true (r35) with c39 | c39
    · replace H := condT c39 H
      refine eB c39 ?_
      obtain ⟨r40, h41, H⟩ := bindS H
      refine gT rfl rfl (p_cv (law_stoked_ok h41 (S38.atP (i := 4) rfl) (S38.atP (i := 5) rfl)) fu19 rfl S38 fun w42 S43 => ?_)
      refine p_pkT rfl (rfl : _ = B r40) ?_
      refine p_aB rfl ?_
      refine wp_nil ?_
      obtain rfl := Option.some.inj H
      refine c_ret ?_; show bodyPostM (Fr none) 0 Tryd.prog Tryd.f4 _ .ret _ _
      refine ret_of (res1 rfl (rvT (rfl : _ = B r40))) ?_
      exact ⟨_, rfl, rfl, S43.keep⟩
    · replace H := condF c39 H
      refine eB c39 ?_
      refine gF rfl rfl ?_
      refine p_pkF rfl (rfl : _ = B false) ?_
      refine p_aB rfl ?_
      refine wp_nil ?_
      obtain rfl := Option.some.inj H
      refine c_ret ?_; show bodyPostM (Fr none) 0 Tryd.prog Tryd.f4 _ .ret _ _
      refine ret_of (res1 rfl (rvT (rfl : _ = B false))) ?_
      exact ⟨_, rfl, rfl, S38.keep⟩
  · replace H := condF c34 H
    refine eB c34 ?_
    refine gF rfl rfl ?_
    refine gF rfl rfl ?_
    refine gF rfl rfl ?_
    refine p_pkF rfl (rfl : _ = B false) ?_
    refine p_mB rfl ?_
    refine gF rfl rfl ?_
    refine p_pkF rfl (rfl : _ = B false) ?_
    refine p_aB rfl ?_
    refine wp_nil ?_
    obtain rfl := Option.some.inj H
    refine c_ret ?_; show bodyPostM (Fr none) 0 Tryd.prog Tryd.f4 _ .ret _ _
    refine ret_of (res1 rfl (rvT (rfl : _ = B false))) ?_
    exact ⟨_, rfl, rfl, S33.keep⟩

end Go.Proofs.YticodohfokgjfaaDoor

set_option linter.unusedVariables false
set_option linter.unusedSimpArgs false
namespace Go.Proofs.YticodohfokgjfaaDoor
open Go Go.Fx
theorem law_coalDays_t (b : CoalBook) (W : ArgW b) (n : Int) : law_CoalDays b n = some true := by
  unfold law_CoalDays
  rw [own_eq b W, Option.bind_some, days_eq b W.arg, Option.bind_some, cond_true, kept_eq b W.arg, Option.bind_some, cond_true, stoked_eq]
  rfl
end Go.Proofs.YticodohfokgjfaaDoor

set_option linter.unusedVariables false
set_option maxRecDepth 100000
namespace Go.Proofs.YticodohfokgjfaaDoor
open Go Go.Fx Go.Proofs Go.ChangeShapes Go.WideShapes Go.ChangeAt Go.RowKit
variable {H : Type} {enc : TypeId × Value → H} {w : World} {spare : Nat → Bool} {held : Bool} {r : Reach} {b0 : Nat} {v : Value} {d : DataW H} {ps : List MemPlace} {P : Program}
theorem wt_cons {t : TypeId} {ts : List TypeId} {d : DataW H} {r : List (DataW H)} (h : (DataW.weightsEach P (t :: ts) (d :: r)).all (· ≤ reachBytes) = true) : (d.weights P t).all (· ≤ reachBytes) = true ∧ (DataW.weightsEach P ts r).all (· ≤ reachBytes) = true := by
  rw [DataW.weightsEach, List.all_append, Bool.and_eq_true] at h
  exact h
theorem wt_at : ∀ {ts : List TypeId} {ds : List (DataW H)} {i : Nat} {t : TypeId} {d : DataW H}, (DataW.weightsEach P ts ds).all (· ≤ reachBytes) = true → ts[i]? = some t → ds[i]? = some d → (d.weights P t).all (· ≤ reachBytes) = true
  | [], _, _, _, _, _, h1, _ => by simp at h1
  | _ :: _, [], _, _, _, _, _, h2 => by simp at h2
  | t :: ts, d :: ds, 0, _, _, h, h1, h2 => by
    simp at h1 h2; subst h1 h2; exact (wt_cons h).1
  | t :: ts, d :: ds, i + 1, _, _, h, h1, h2 => by
    simp at h1 h2; exact wt_at (wt_cons h).2 h1 h2
theorem slice_wt {t e : TypeId} {fuel n c : Nat} {cs : List Value} {A : Option Addr} {x : DataW H × List MemPlace} (ht : P.underlying t = some (.slice e)) (h : DataW.trod enc P w 0 spare held fuel t cs = some x) (hw : (x.1.weights P t).all (· ≤ reachBytes) = true)
    (hc : cs = [SL A n c]) : n * P.bytesOf e ≤ reachBytes := by
  rcases DataW.trod_slice ht h with ⟨rfl, _⟩ | ⟨a, len, cap, elems, rest, m, _, rfl, rfl, _, _, _, hel, _⟩
  · injection hc with hc; injection hc with _ hc _; subst hc; simp
  · injection hc with hc; injection hc with _ hc _; subst hc
    simp only [DataW.weights, ht, List.all_cons, Bool.and_eq_true, decide_eq_true_eq, List.length_map] at hw
    have h1 := hw.1
    have h2 : len * P.bytesOf e ≤ (elems.length + rest.length) * P.bytesOf e := Nat.mul_le_mul_right _ (by omega)
    omega
theorem wt_book {b : CoalBook} {A1 A2 : Option Addr} {c1 c2 : Nat} (hd : DataW.Trod enc Tryd.prog w 0 spare held 29 (AG ([I b.Heap.Low, I b.Heap.High] ++ (sgE eSpan b.Eats 2 ++ (sg b.Extra 3 ++ [SL A1 b.Days.length c1, I b.Collier.Low, I b.Collier.High, I b.Brings, SL A2 b.Dips.length c2])))) d ps) (hw : (d.weights Tryd.prog 29).all (· ≤ reachBytes) = true) :
    b.Days.length * 24 ≤ 140737488355328 ∧ b.Dips.length * 24 ≤ 140737488355328 := by
  obtain ⟨fuel, hf⟩ := hd
  obtain ⟨xs, m, _, hx, hl, hxs, hel⟩ := DataW.trod_struct u29 hf
  have hx1 : d = .agg (xs.map (·.1)) := congrArg Prod.fst hx
  subst hx1
  rw [f29s] at hxs
  have fb := f29b
  simp only [List.all_cons, List.all_nil, Bool.and_eq_true, beq_iff_eq, and_true] at fb
  obtain ⟨⟨o0, t0⟩, ⟨o1, t1⟩, ⟨o2, t2⟩, ⟨o3, t3⟩, ⟨o4, t4⟩, ⟨o5, t5⟩, ⟨o6, t6⟩⟩ := fb
  have e3 := hel 3 _ (get_bang (by rw [f29s]; decide))
  have e6 := hel 6 _ (get_bang (by rw [f29s]; decide))
  rw [o3, t3, c26, List.getElem?_eq_getElem (by omega)] at e3
  rw [o6, t6, c27, List.getElem?_eq_getElem (by omega)] at e6
  have hwf : ∀ (k : Nat) (t : TypeId) (hk : k < xs.length), ((Tryd.prog.fieldsOf 29)[k]?).map (·.type) = some t → ((xs[k]'hk).1.weights Tryd.prog t).all (· ≤ reachBytes) = true := fun k t hk ht => by
    simp only [DataW.weights, u29] at hw
    refine wt_at hw (i := k) ?_ (by rw [List.getElem?_map, List.getElem?_eq_getElem hk]; rfl)
    rw [List.getElem?_map, Array.getElem?_toList]
    exact ht
  have h3 := hwf 3 26 (by omega) (by rw [get_bang (by rw [f29s]; decide), Option.map_some, t3])
  have h6 := hwf 6 27 (by omega) (by rw [get_bang (by rw [f29s]; decide), Option.map_some, t6])
  have w3 := slice_wt u26 e3 h3 (A := A1) (n := b.Days.length) (c := c1) rfl
  have w6 := slice_wt u27 e6 h6 (A := A2) (n := b.Dips.length) (c := c2) rfl
  rw [show Tryd.prog.bytesOf 64 = 24 by kernel_rfl] at w3
  rw [show Tryd.prog.bytesOf 67 = 24 by kernel_rfl] at w6
  have h2 : reachBytes ≤ 140737488355328 := by decide
  omega
end Go.Proofs.YticodohfokgjfaaDoor

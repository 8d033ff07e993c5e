/- What is told of a book, by all of its truths. -/
import Derived.Test.YticodohfokgjfaaDoorZPOpen
import Derived.KernelRfl
set_option linter.unusedVariables false
set_option linter.unusedSimpArgs false
namespace Go.Proofs.YticodohfokgjfaaDoor
open Go Go.Fx
theorem stoked_eq : law_stoked = some true := by kernel_rfl
/-- a truth as it is built -/
structure Tru (q : Coal_book) (t : Coal_truth) : Prop where
  el : t.eats_.length = 2
  wl : t.winds_.length = 6
  cl : t.coal_.length = 6
  wi : ∀ k, k < q.CoalBook.Days.length → 0 ≤ t.winds_.getD k 0 ∧ t.winds_.getD k 0 ≤ 2
  co : ∀ k, k < q.CoalBook.Days.length → -100000 ≤ coalAt k t ∧ coalAt k t ≤ 100000
theorem getD_aset {l : List Int} {n k : Nat} {i x : Int} (hk : k < n) : (aset l n i x).getD k 0 = if k = i.toNat then x else l.getD k 0 := by
  simp [aset, List.getD_eq_getElem?_getD, hk]
theorem blown_step {q : Coal_book} {r : Nat} {t u : Coal_truth} {d c : Int} (h : u ∈ blown q (r + 1) t d c) : ∃ (w : Nat) (cost : Int), w < 3 ∧ lookL q.costs_ (Coal_gust.mk d (w : Int)) = some cost ∧ rightB q d ((bif t.collier_ == d then c + q.CoalBook.Brings else c) - eng q d t.eats_ - cost) = true ∧
    u ∈ blown q r (Coal_truth.mk t.eats_ t.collier_ (aset t.winds_ 6 d (w : Int)) (aset t.coal_ 6 d ((bif t.collier_ == d then c + q.CoalBook.Brings else c) - eng q d t.eats_ - cost))) (d + 1) ((bif t.collier_ == d then c + q.CoalBook.Brings else c) - eng q d t.eats_ - cost) := by
  rw [blown] at h
  obtain ⟨w, hw, h⟩ := List.mem_flatMap.1 h
  cases hl : lookL q.costs_ (Coal_gust.mk d (w : Int)) with
  | none => rw [hl] at h; cases h
  | some cost =>
    rw [hl] at h
    have h : u ∈ (bif rightB q d ((bif t.collier_ == d then c + q.CoalBook.Brings else c) - eng q d t.eats_ - cost) then _ else []) := h
    refine ⟨w, cost, by have := List.mem_range'_1.1 hw; omega, hl, ?_, ?_⟩
    · cases hr : rightB q d ((bif t.collier_ == d then c + q.CoalBook.Brings else c) - eng q d t.eats_ - cost) with
      | true => rfl
      | false => rw [hr] at h; cases h
    · cases hr : rightB q d ((bif t.collier_ == d then c + q.CoalBook.Brings else c) - eng q d t.eats_ - cost) with
      | true => rw [hr] at h; exact h
      | false => rw [hr] at h; cases h
theorem blown_tru (q : Coal_book) (Q : Op q) : ∀ (r : Nat) (t : Coal_truth) (d : Nat) (c : Int) (u : Coal_truth), d + r = q.CoalBook.Days.length → -(1000 * ((d : Int) + 1)) ≤ c → c ≤ 1000 * ((d : Int) + 1) → t.eats_.length = 2 → (∀ x ∈ t.eats_, 0 ≤ x ∧ x ≤ 9) → t.winds_.length = 6 → t.coal_.length = 6 →
    (∀ k, k < d → 0 ≤ t.winds_.getD k 0 ∧ t.winds_.getD k 0 ≤ 2) → (∀ k, k < d → -100000 ≤ coalAt k t ∧ coalAt k t ≤ 100000) → u ∈ blown q r t d c → Tru q u ∧ u.eats_ = t.eats_ ∧ u.collier_ = t.collier_ := by
  have hdn := Q.dn; have hbr := Q.br
  intro r
  induction r with
  | zero =>
    intro t d c u h1 h2 h3 h4 h5 h6 h7 h8 h9 hu
    obtain rfl := List.mem_singleton.1 hu
    exact ⟨⟨h4, h6, h7, fun k hk => h8 k (by omega), fun k hk => h9 k (by omega)⟩, rfl, rfl⟩
  | succ r ih =>
    intro t d c u h1 h2 h3 h4 h5 h6 h7 h8 h9 hu
    obtain ⟨w, cost, hw, hl, hr, hu⟩ := blown_step hu
    obtain ⟨_, e2, e3⟩ := engines_eq q Q d (by omega) t.eats_ h4 h5
    obtain ⟨p, hp, rfl⟩ := look_mem hl
    obtain ⟨p1, p2⟩ := Q.cs p hp
    have hz : -(1000 * ((d : Int) + 1)) ≤ (bif t.collier_ == (d : Int) then c + q.CoalBook.Brings else c) ∧ (bif t.collier_ == (d : Int) then c + q.CoalBook.Brings else c) ≤ 1000 * ((d : Int) + 1) + 400 := by
      cases (t.collier_ == (d : Int)) <;> simp only [cond_true, cond_false] <;> omega
    generalize (bif t.collier_ == (d : Int) then c + q.CoalBook.Brings else c) = z at hz hu hr
    have := ih (Coal_truth.mk t.eats_ t.collier_ (aset t.winds_ 6 d (w : Int)) (aset t.coal_ 6 d (z - eng q d t.eats_ - p.2))) (d + 1) (z - eng q d t.eats_ - p.2) u (by omega) (by omega) (by omega) h4 h5 (by simp [aset_len]) (by simp [aset_len])
      (fun k hk => by
        simp only
        rw [getD_aset (by omega)]
        split
        · omega
        · exact h8 k (by simp at *; omega))
      (fun k hk => by
        unfold coalAt
        simp only
        rw [getD_aset (by omega)]
        split
        · omega
        · exact h9 k (by simp at *; omega)) hu
    exact this
theorem truths_tru {q : Coal_book} (Q : Op q) {t : Coal_truth} (h : t ∈ truths q) : Tru q t ∧ (∀ x ∈ t.eats_, 0 ≤ x ∧ x ≤ 9) ∧ t.collier_ ∈ rng q.CoalBook.Collier := by
  obtain ⟨hp, h1, o, h2, p, h3, c, h4, h⟩ := truth_mem.1 h
  have g1 := rng_mem.1 h1; have g2 := rng_mem.1 h2; have g3 := rng_mem.1 h3
  have := Q.hp.l0; have := Q.hp.hi
  have he0 := Q.ea _ (agetS_mem (i := 0) (by rw [Q.el]; decide))
  have he1 := Q.ea _ (agetS_mem (i := 1) (by rw [Q.el]; decide))
  have m0 := he0.1.l0; have m1 := he0.2; have m2 := he1.1.l0; have m3 := he1.2
  have hb : ∀ x ∈ (init o p c).eats_, 0 ≤ x ∧ x ≤ 9 := fun x hx => by
    simp [init] at hx
    rcases hx with rfl | rfl <;> omega
  obtain ⟨T, e1, e2⟩ := blown_tru q Q q.CoalBook.Days.length (init o p c) 0 hp t (by omega) (by simp only [Int.natCast_zero]; omega) (by simp only [Int.natCast_zero]; omega) rfl hb rfl rfl (fun k hk => by omega) (fun k hk => by omega) h
  refine ⟨T, by rw [e1]; exact hb, by rw [e2]; exact h4⟩
abbrev TT (b : CoalBook) : List Coal_truth := truths (opn b [])
theorem asked_eq {b : CoalBook} (V : Val b) (A : Arg b) : coal_asked b true = some (opn b [], bif (TT b).isEmpty then 62 else 0) := by
  unfold coal_asked
  rw [check_eq b A, val_iff.2 V, Option.bind_some, opened_eq V A [] (by simp), Option.bind_some]
  rw [show (Coal_book.mk (CoalBook.mk (opn b []).CoalBook.Heap (opn b []).CoalBook.Eats (opn b []).CoalBook.Extra b.Days (opn b []).CoalBook.Collier (opn b []).CoalBook.Brings (opn b []).CoalBook.Dips) (opn b []).costs_) = opn b [] from rfl]
  rw [isTrue_eq _ (opn_op V A []), Option.bind_some]
  cases (TT b).isEmpty <;> rfl
theorem right_law {b : CoalBook} (V : Val b) (A : Arg b) : coal_Right b = some (!(TT b).isEmpty, 0) := by
  unfold coal_Right
  rw [check_eq b A, val_iff.2 V, Option.bind_some, opened_eq V A [] (by simp), Option.bind_some]
  rw [show (Coal_book.mk (CoalBook.mk (opn b []).CoalBook.Heap (opn b []).CoalBook.Eats (opn b []).CoalBook.Extra b.Days (opn b []).CoalBook.Collier (opn b []).CoalBook.Brings (opn b []).CoalBook.Dips) (opn b []).costs_) = opn b [] from rfl]
  rw [isTrue_eq _ (opn_op V A []), Option.bind_some]
  rfl
theorem dayIn {b : CoalBook} {d : Nat} (hd : d < b.Days.length) : inB (d : Int) 0 ((b.Days.length : Int) - 1) = true := inB_iff.2 (by omega)
theorem coal_of {q : Coal_book} (Q : Op q) {d : Nat} (hd : d < q.CoalBook.Days.length) : ∃ s, coal_book_span q (Coal_number.mk fun y => coal_coal_1 y (d : Int)) = some s ∧ SpanOf (coalAt d) (truths q) s :=
  span_ex q Q _ (coalAt d) fun t ht => by
    have := Q.dn
    show coal_coal_1 t (d : Int) = _
    unfold coal_coal_1
    rw [need_of (by simp [inI]; omega)]
    rfl
theorem heap_law {b : CoalBook} (V : Val b) (A : Arg b) {d : Nat} (hd : d < b.Days.length) : ∃ s, coal_Heap b d = some (s, bif (TT b).isEmpty then 62 else 0) ∧ SpanOf (coalAt d) (TT b) s := by
  obtain ⟨s, hs, S⟩ := coal_of (opn_op V A []) (d := d) hd
  refine ⟨s, ?_, S⟩
  unfold coal_Heap coal_coal
  rw [isDay_eq b A, Option.bind_some, dayIn hd, asked_eq V A, Option.bind_some]
  cases h : (TT b).isEmpty with
  | true =>
    have := S.nil (List.isEmpty_iff.1 h)
    subst this
    rfl
  | false =>
    simp only [cond_false, bne_self_eq_false, Option.bind_some, hs]
theorem modN (a : Int) {n : Nat} (h : 0 < n) (h2 : n ≤ 1000) : ∃ r : Nat, B_Mod a n = some (r : Int) ∧ r < n := by
  obtain ⟨r, h1, h3, h4⟩ := mod_ok a n (by omega) (by omega)
  exact ⟨r.toNat, by rw [h1, Int.toNat_of_nonneg h3], by omega⟩
end Go.Proofs.YticodohfokgjfaaDoor

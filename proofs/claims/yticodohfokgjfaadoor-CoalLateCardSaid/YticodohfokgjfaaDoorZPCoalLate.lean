/- The law of the last day on which the collier may come. -/
import Derived.Test.YticodohfokgjfaaDoorZPLate
import Derived.Test.YticodohfokgjfaaDoorZWCoalLate
set_option linter.unusedVariables false
set_option linter.unusedSimpArgs false
namespace Go.Proofs.YticodohfokgjfaaDoor
open Go Go.Fx
theorem n40 : ((4 : Int) != 0) = true := by decide
theorem e40 : ((4 : Int) == 0) = false := by decide
theorem e44 : ((4 : Int) == 4) = true := by decide
theorem e04 : ((0 : Int) == 4) = false := by decide
theorem a1 (b : CoalBook) (h : law_CoalLate_j2 b b.Collier.Low = some true) : law_CoalLate_j3 (0, 4) b () = some true := by
  unfold law_CoalLate_j3
  rw [n40, cond_true]; exact h
theorem a2 (b : CoalBook) (h : law_CoalLate_j3 (0, 4) b () = some true) : law_CoalLate_j6 (0, 4) b () = some true := by
  unfold law_CoalLate_j6
  rw [e40, cond_false]; exact h
theorem a3 (b : CoalBook) (h : law_CoalLate_j6 (0, 4) b () = some true) : law_CoalLate_j7 b (0, 4) false = some true := by
  unfold law_CoalLate_j7
  rw [cond_false, e40, cond_false, e44, cond_true, bne_self_eq_false, cond_false]; exact h
theorem a4 (b : CoalBook) (m : Int) (h : law_CoalLate_j2 b (wr (m + 1)) = some true) : law_CoalLate_j3 (m, 0) b () = some true := by
  unfold law_CoalLate_j3
  rw [bne_self_eq_false, cond_false]; exact h
theorem a5 (b : CoalBook) (m : Int) (hc : inB m b.Collier.Low b.Collier.High = true) (h : law_CoalLate_j6 (m, 0) b () = some true) : law_CoalLate_j7 b (m, 0) false = some true := by
  unfold law_CoalLate_j7
  rw [cond_false, beq_self_eq_true, cond_true, contains_eq, Option.bind_some, hc, Bool.not_true, cond_false, e04, cond_false]; exact h
theorem a6 (b : CoalBook) (m : Int) (r : Int × Int) (hr : coal_Lasts (CoalBook.mk b.Heap b.Eats b.Extra b.Days ⟨b.Collier.Low, m⟩ b.Brings b.Dips) (wr ((b.Days.length : Int) - 1)) = some r) (h2 : r = (0, 62) ∨ r = (2, 0)) (h : law_CoalLate_j3 (m, 0) b () = some true) : law_CoalLate_j6 (m, 0) b () = some true := by
  unfold law_CoalLate_j6
  rw [beq_self_eq_true, cond_true, show B_Range b.Collier.Low (m, (0 : Int)).1 = some ⟨b.Collier.Low, m⟩ from rfl, Option.bind_some, hr, Option.bind_some]
  rcases h2 with rfl | rfl
  · rw [bne_self_eq_false, cond_false]; exact h
  · rw [show ((2, (0 : Int)) : Int × Int).2 = 0 from rfl, show ((0 : Int) != 62) = true by decide, cond_true, bne_self_eq_false, cond_false, bne_self_eq_false, cond_false]; exact h
theorem law_coalLate (b : CoalBook) (A : Arg b) : law_CoalLate b = some true := by
  unfold law_CoalLate
  rw [sound_eq b A, Option.bind_some]
  cases hv : valB b with
  | false => simp only [Bool.not_false, cond_true, stoked_eq, Option.bind_some]
  | true =>
    have V := val_iff.1 hv
    have hdn := V.dn
    have hc := co_iff V
    obtain ⟨f, hf, f0, f1⟩ := late_law V A
    simp only [Bool.not_true, cond_false, hf, Option.bind_some]
    cases h : (TT b).isEmpty with
    | true =>
      have hn := List.isEmpty_iff.1 h
      have := f0 hn
      subst this
      unfold law_CoalLate_j7
      simp only [order_nil V A hn, Option.bind_some, stoked_eq, show ((62 : Int) != 0) = true by decide, show ((62 : Int) != 4) = true by decide, beq_self_eq_true, cond_true]
    | false =>
      have hne : TT b ≠ [] := fun h2 => by rw [h2] at h; cases h
      obtain ⟨m, rfl, m1, m2, m3, m4⟩ := f1 hne
      have wlast : wr ((b.Days.length : Int) - 1) = ((b.Days.length - 1 : Nat) : Int) := by rw [wrI (by omega) (by omega)]; omega
      have j2 : law_CoalLate_j2 b m = some true := by
        unfold law_CoalLate_j2
        by_cases hm : m > b.Collier.High
        · rw [decide_eq_true hm, cond_true, stoked_eq]; rfl
        · rw [decide_eq_false hm, cond_false]
          have Vy := col_val V (s := ⟨m, m⟩) m1 (Int.le_refl m) (by simp only; omega)
          have Ay : Arg (colB b ⟨m, m⟩) := ⟨A.dl, A.pl, A.el, A.xl⟩
          rcases m3 with h3 | ⟨t, ht, hl, e⟩
          · omega
          · have hty := mem_col (s := ⟨m, m⟩) ht (rng_mem.2 (by simp only; omega))
            show (B_Point m).bind _ = _
            rw [show B_Point m = some ⟨m, m⟩ from rfl, Option.bind_some, wlast]
            have := lasts_law Vy Ay (d := b.Days.length - 1) (show b.Days.length - 1 < b.Days.length by omega)
            rw [show coal_Lasts (CoalBook.mk b.Heap b.Eats b.Extra b.Days ⟨m, m⟩ b.Brings b.Dips) ((b.Days.length - 1 : Nat) : Int) = _ from this]
            cases hy : (TT (colB b ⟨m, m⟩)).isEmpty with
            | true => rw [List.isEmpty_iff.1 hy] at hty; cases hty
            | false =>
              simp only [cond_false, Option.bind_some, beq_self_eq_true, cond_true]
              rw [decide_eq_true (kind_lt hty hl), cond_true, stoked_eq]; rfl
      by_cases hm : m = b.Collier.Low
      · have hb : (m == b.Collier.Low) = true := beq_iff_eq.2 hm
        simp only [hb, cond_true]
        rw [n40, cond_true, bne_self_eq_false]
        exact a3 b (a2 b (a1 b (hm ▸ j2)))
      · have hb : (m == b.Collier.Low) = false := beq_eq_false_iff_ne.2 hm
        simp only [hb, cond_false]
        have j3 : law_CoalLate_j3 (m - 1, 0) b () = some true := a4 b _ (by rw [show wr (m - 1 + 1) = m by rw [wrI (by omega) (by omega)]; omega]; exact j2)
        have Vx := col_val V (s := ⟨b.Collier.Low, m - 1⟩) (Int.le_refl _) (by simp only; omega) (by simp only; omega)
        have Ax : Arg (colB b ⟨b.Collier.Low, m - 1⟩) := ⟨A.dl, A.pl, A.el, A.xl⟩
        have hl := lasts_law Vx Ax (d := b.Days.length - 1) (show b.Days.length - 1 < b.Days.length by omega)
        rw [← wlast] at hl
        have hr : (bif (TT (colB b ⟨b.Collier.Low, m - 1⟩)).isEmpty then (0, 62) else (kind (TT (colB b ⟨b.Collier.Low, m - 1⟩)) (b.Days.length - 1), 0)) = ((0, 62) : Int × Int) ∨ (bif (TT (colB b ⟨b.Collier.Low, m - 1⟩)).isEmpty then (0, 62) else (kind (TT (colB b ⟨b.Collier.Low, m - 1⟩)) (b.Days.length - 1), 0)) = ((2, 0) : Int × Int) := by
          cases hx : (TT (colB b ⟨b.Collier.Low, m - 1⟩)).isEmpty with
          | true => exact .inl rfl
          | false =>
            have hxe : TT (colB b ⟨b.Collier.Low, m - 1⟩) ≠ [] := fun h2 => by rw [h2] at hx; cases hx
            have ha : (TT (colB b ⟨b.Collier.Low, m - 1⟩)).all (lastB (b.Days.length - 1)) = true := List.all_eq_true.2 fun t ht => by
              obtain ⟨h1, h2⟩ := col_mem ht (fun n hn => by
                have := rng_mem.1 hn
                refine rng_mem.2 ?_
                simp only at this
                omega)
              have h2 := rng_mem.1 h2
              simp only at h2
              cases hl : lastB (b.Days.length - 1) t with
              | true => rfl
              | false => have := m4 t h1 hl; omega
            have hk := (kind_two hxe).trans ha
            have hk := beq_iff_eq.1 hk
            rw [cond_false, hk]
            exact .inr rfl
        rw [bne_self_eq_false, cond_false]
        exact a5 b _ (inB_iff.2 (by omega)) (a6 b _ _ hl hr j3)
end Go.Proofs.YticodohfokgjfaaDoor

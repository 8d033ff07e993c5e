/- The law of the order. -/
import Derived.Test.YticodohfokgjfaaDoorZPShift
import Derived.Test.YticodohfokgjfaaDoorZWCoalOrder
set_option linter.unusedVariables false
set_option linter.unusedSimpArgs false
namespace Go.Proofs.YticodohfokgjfaaDoor
open Go Go.Fx
theorem hi_arg {b : CoalBook} (A : Arg b) (n : Int) : Arg (hiB b n) := ⟨A.dl, by show (b.Dips.map (dipUp n)).length ≤ _; rw [List.length_map]; exact A.pl, A.el, A.xl⟩
theorem hi_TT {b : CoalBook} (V : Val b) (n : Int) : TT (hiB b n) = (TT b).map (shT n b.Days.length) := truths_shift V.dn.2 n []
theorem last_all {L : List Coal_truth} {d : Nat} : L.all (lastB d) = true ↔ ∀ k, k < d + 1 → ∀ t ∈ L, 0 ≤ coalAt k t := by
  simp only [List.all_eq_true, lastB_iff]
  exact ⟨fun h k hk t ht => h t ht k (by omega), fun h t ht k hk => h k (by omega) t ht⟩
theorem order_body (b : CoalBook) (n0 : Int) (e : Int) (rec : Int → Option Bool) (j : Int) (R : Option Bool) (hj : decide (j < 2) = true) (hh : law_higher b (wr (n0 - j)) = some (hiB b (n0 - j)))
    (hc : decide (n0 < 1) = true → rec (wr (j + 1)) = R)
    (hk : decide (n0 < 1) = false → (∃ c, coal_Check (hiB b (n0 - j)) = some c ∧ ((c != 0) = true → rec (wr (j + 1)) = R) ∧ ((c != 0) = false → ∃ k, coal_Lasts (hiB b (n0 - j)) (wr ((b.Days.length : Int) - 1)) = some (k, 0) ∧ ((k == 2) != (j == 0)) = false ∧ rec (wr (j + 1)) = R))) : law_CoalOrder_l1 b (n0, e) rec j = R := by
  unfold law_CoalOrder_l1
  rw [hj, cond_true, hh, Option.bind_some]
  cases h : decide (n0 < 1) with
  | true => rw [cond_true]; exact hc h
  | false =>
    rw [cond_false]
    obtain ⟨c, h1, h2, h3⟩ := hk h
    rw [show coal_Check (CoalBook.mk (hiB b (n0 - j)).Heap (hiB b (n0 - j)).Eats (hiB b (n0 - j)).Extra b.Days (hiB b (n0 - j)).Collier (hiB b (n0 - j)).Brings (hiB b (n0 - j)).Dips) = some c from h1, Option.bind_some]
    cases hcc : (c != 0) with
    | true => rw [cond_true]; exact h2 hcc
    | false =>
      rw [cond_false]
      obtain ⟨k, h4, h5, h6⟩ := h3 hcc
      rw [show coal_Lasts (CoalBook.mk (hiB b (n0 - j)).Heap (hiB b (n0 - j)).Eats (hiB b (n0 - j)).Extra b.Days (hiB b (n0 - j)).Collier (hiB b (n0 - j)).Brings (hiB b (n0 - j)).Dips) (wr ((b.Days.length : Int) - 1)) = some (k, 0) from h4, Option.bind_some, bne_self_eq_false, cond_false, h5, cond_false]
      exact h6
theorem law_coalOrder (b : CoalBook) (A : Arg b) : law_CoalOrder b = some true := by
  unfold law_CoalOrder
  rw [sound_eq b A, Option.bind_some]
  cases hv : valB b with
  | false => simp only [Bool.not_false, cond_true, stoked_eq, Option.bind_some]
  | true =>
    have V := val_iff.1 hv
    have hdn := V.dn
    have wlast : wr ((b.Days.length : Int) - 1) = ((b.Days.length - 1 : Nat) : Int) := by rw [wrI (by omega) (by omega)]; omega
    obtain ⟨n0, hn, hO⟩ := order_law V A
    rw [Bool.not_true, cond_false, hn, Option.bind_some, wlast, lasts_law V A (d := b.Days.length - 1) (by omega), Option.bind_some]
    cases h : (TT b).isEmpty with
    | true => simp only [cond_true, show ((62 : Int) != 0) = true by decide, beq_self_eq_true, stoked_eq, Option.bind_some]
    | false =>
      have hne : TT b ≠ [] := fun h2 => by rw [h2] at h; cases h
      have O := hO hne
      simp only [cond_false, bne_self_eq_false]
      have hlen : b.Days.length - 1 + 1 = b.Days.length := by omega
      have hz : (n0 == 0) = (kind (TT b) (b.Days.length - 1) == 2) := by
        rw [kind_two hne]
        cases ha : (TT b).all (lastB (b.Days.length - 1)) with
        | true =>
          have ha := last_all.1 ha
          rw [hlen] at ha
          rw [beq_iff_eq]
          rcases O.is with h | ⟨k, hk, t, ht, h⟩
          · exact h
          · have := ha k hk t ht; have := O.n0; omega
        | false =>
          rw [beq_eq_false_iff_ne]
          intro h0
          have : (TT b).all (lastB (b.Days.length - 1)) = true := last_all.2 fun k hk t ht => by have := O.ge k (by omega) t ht; omega
          rw [ha] at this; cases this
      rw [decide_eq_false (by have := O.n0; omega), cond_false, hz, bne_self_eq_false, cond_false]
      have hO1 := O.n0; have hO2 := O.hi
      have kindHi : ∀ j : Nat, (1 ≤ n0) → j < 2 → (kind (TT (hiB b (n0 - (j : Int)))) (b.Days.length - 1) == 2) = ((j : Int) == 0) := by
        intro j h1 hj
        have hne2 : TT (hiB b (n0 - (j : Int))) ≠ [] := by rw [hi_TT V]; simpa using hne
        rw [kind_two hne2, hi_TT V]
        match j, hj with
        | 0, _ =>
          rw [show (((0 : Nat) : Int) == 0) = true from rfl]
          refine last_all.2 fun k hk t ht => ?_
          obtain ⟨u, hu, rfl⟩ := List.mem_map.1 ht
          rw [coal_shift (by omega) hdn.2]
          have := O.ge k (by omega) u hu
          simp only [Int.natCast_zero]
          omega
        | 1, _ =>
          rw [show (((1 : Nat) : Int) == 0) = false from rfl]
          cases ha : ((TT b).map (shT (n0 - ((1 : Nat) : Int)) b.Days.length)).all (lastB (b.Days.length - 1)) with
          | false => rfl
          | true =>
            rcases O.is with h | ⟨k, hk, t, ht, h⟩
            · omega
            · have := last_all.1 ha k (by omega) _ (List.mem_map.2 ⟨t, ht, rfl⟩)
              rw [coal_shift hk hdn.2] at this
              omega
      refine loop_fold0 (fun k => (k : Int)) 2 (fun rec k hk => ?_) (fun rec => ?_) (by rw [big_eq]; omega) rfl
      · refine order_body b n0 0 rec (k : Int) _ (decide_eq_true (by omega)) (by rw [wrI (by omega) (by omega)]; exact higher_eq V _ (by omega) (by omega)) (fun _ => by rw [wrN hk (by omega)]) (fun hlt => ?_)
        have hlt : ¬ n0 < 1 := of_decide_eq_false hlt
        refine ⟨_, check_eq _ (hi_arg A _), fun _ => by rw [wrN hk (by omega)], fun hc => ?_⟩
        have Vx : Val (hiB b (n0 - (k : Int))) := by
          refine val_iff.1 ?_
          cases hvv : valB (hiB b (n0 - (k : Int))) with
          | true => rfl
          | false => rw [hvv] at hc; cases hc
        have hne2 : (TT (hiB b (n0 - (k : Int)))).isEmpty = false := by rw [hi_TT V]; simpa using hne
        refine ⟨kind (TT (hiB b (n0 - (k : Int)))) (b.Days.length - 1), ?_, ?_, ?_⟩
        · rw [wlast]
          have := lasts_law Vx (hi_arg A _) (d := b.Days.length - 1) (show b.Days.length - 1 < b.Days.length by omega)
          rw [hne2, cond_false] at this
          exact this
        · rw [kindHi k (by omega) hk, bne_self_eq_false]
        · rw [wrN hk (by omega)]
      · unfold law_CoalOrder_l1
        rw [decide_eq_false (by omega), cond_false, stoked_eq]
        rfl
end Go.Proofs.YticodohfokgjfaaDoor

/- The law of the first day on which coal may not last. -/
import Derived.Test.YticodohfokgjfaaDoorZPTold
import Derived.Test.YticodohfokgjfaaDoorZWCoalDay
set_option linter.unusedVariables false
set_option linter.unusedSimpArgs false
namespace Go.Proofs.YticodohfokgjfaaDoor
open Go Go.Fx
theorem all_of {L : List Coal_truth} {d : Nat} : L.all (lastB d) = true ↔ ∀ t ∈ L, ∀ k, k ≤ d → 0 ≤ coalAt k t := by
  simp only [List.all_eq_true, lastB_iff]
theorem law_coalDay (b : CoalBook) (A : Arg b) (n : Int) : law_CoalDay b n = some true := by
  unfold law_CoalDay
  rw [sound_eq b A, Option.bind_some]
  cases hv : valB b with
  | false => simp only [Bool.not_false, cond_true, stoked_eq, Option.bind_some]
  | true =>
    have V := val_iff.1 hv
    have hdn := V.dn
    obtain ⟨d, hd, hd2⟩ := modN n (n := b.Days.length) (by omega) (by omega)
    obtain ⟨f, hf, f0, f1⟩ := day_law V A
    obtain ⟨s, hs, S⟩ := heap_law V A hd2
    simp only [Bool.not_true, cond_false, hd, hf, hs, lasts_law V A hd2, Option.bind_some, stoked_eq]
    cases h : (TT b).isEmpty with
    | true =>
      have hn := List.isEmpty_iff.1 h
      have := f0 hn
      subst this
      rfl
    | false =>
      have hne : TT b ≠ [] := fun h2 => by rw [h2] at h; cases h
      simp only [cond_false, bne_self_eq_false]
      rcases f1 hne with ⟨e, he, rfl, ⟨t, ht, hlt⟩, hb⟩ | ⟨rfl, hb⟩
      · simp only [bne_self_eq_false, cond_false]
        rw [wrI (by omega) (by omega), inside_eq, dayIn he, Option.bind_some]
        simp only [Bool.not_true, cond_false]
        have hj : law_CoalDay_j1 b ((e : Int), 0) () = some true := by
          unfold law_CoalDay_j1
          obtain ⟨s2, hs2, S2⟩ := heap_law V A he
          simp only [hs2, Option.bind_some, h, cond_false, beq_self_eq_true, cond_true, stoked_eq]
          have := S2.le t ht
          rw [decide_eq_true (by omega), cond_true]
        have hk : (kind (TT b) d == 2) = decide ((d : Int) < (e : Int)) := by
          rw [kind_two hne]
          by_cases hde : d < e
          · rw [decide_eq_true (by omega)]
            exact all_of.2 fun t ht k hk => hb k (by omega) t ht
          · rw [decide_eq_false (by omega)]
            cases ha : (TT b).all (lastB d) with
            | false => rfl
            | true => have := all_of.1 ha t ht e (by omega); omega
        rw [hk, bne_self_eq_false, cond_false, hj]
        by_cases hde : d < e
        · obtain ⟨u, hu, e1⟩ := S.low hne
          have := hb d hde u hu
          rw [decide_eq_true (by omega), cond_true, decide_eq_false (by omega), cond_false]
        · rw [decide_eq_false (by omega), cond_false]
      · obtain ⟨u, hu, e1⟩ := S.low hne
        have := hb d hd2 u hu
        rw [kind_two hne, all_of.2 fun t ht k hk => hb k (by omega) t ht, decide_eq_true (show s.Low ≥ 0 by omega)]
        rfl
end Go.Proofs.YticodohfokgjfaaDoor

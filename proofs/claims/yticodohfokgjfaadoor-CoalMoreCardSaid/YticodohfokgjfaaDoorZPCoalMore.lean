/- The law of one measure more. -/
import Derived.Test.YticodohfokgjfaaDoorZPMore
import Derived.Test.YticodohfokgjfaaDoorZWCoalMore
set_option linter.unusedVariables false
set_option linter.unusedSimpArgs false
namespace Go.Proofs.YticodohfokgjfaaDoor
open Go Go.Fx
theorem covers_eq {s t : Span} (h : s.Low ≤ t.Low ∧ t.High ≤ s.High) : B_Covers s t = some true := by
  unfold B_Covers
  rw [decide_eq_true (show t.Low ≥ s.Low from h.1), cond_true, decide_eq_true h.2]
theorem law_coalMore (b : CoalBook) (A : Arg b) (x : CoalDip) (a : List Int) : law_CoalMore b x a = some true := by
  unfold law_CoalMore
  rw [sound_eq b A, Option.bind_some]
  cases hv : valB b with
  | false => simp only [Bool.not_false, cond_true, stoked_eq, Option.bind_some]
  | true =>
    have V := val_iff.1 hv
    have hdn := V.dn
    rw [Bool.not_true, cond_false]
    cases h4 : ((b.Dips.length : Int) == 4) with
    | true => simp only [cond_true, stoked_eq, Option.bind_some]
    | false =>
      obtain ⟨d, hd, hd2⟩ := modN (aget a 0) (n := b.Days.length) (by omega) (by omega)
      obtain ⟨e, he, he2⟩ := modN (aget a 1) (n := 2) (by omega) (by omega)
      have he' : B_Mod (aget a 1) 2 = some (e : Int) := he
      obtain ⟨s, s1, S⟩ := heap_law V A hd2
      rw [cond_false, with_eq V, Option.bind_some, hd, Option.bind_some, he', Option.bind_some, s1, Option.bind_some]
      rw [show (CoalBook.mk (withB b x).Heap (withB b x).Eats (withB b x).Extra b.Days (withB b x).Collier (withB b x).Brings (withB b x).Dips) = withB b x from rfl]
      have A' : Arg (withB b x) := ⟨A.dl, by have := V.pn; show (b.Dips ++ [x]).length ≤ _; simp; omega, A.el, A.xl⟩
      cases hv2 : valB (withB b x) with
      | false =>
        rw [heap_bad A' hv2, Option.bind_some, check_eq _ A', hv2, Option.bind_some]
        simp only [show ((60 : Int) != 0) = true by decide, cond_true, cond_false, beq_self_eq_true, stoked_eq, Option.bind_some]
      | true =>
        have V' := val_iff.1 hv2
        obtain ⟨t, t1, T⟩ := heap_law V' A' (d := d) hd2
        rw [t1, Option.bind_some, check_eq _ A', hv2, Option.bind_some]
        cases hT : (TT (withB b x)).isEmpty with
        | true => simp only [cond_true, show ((62 : Int) != 0) = true by decide, show ((62 : Int) == 60) = false by decide, show ((0 : Int) == 62) = false by decide, beq_self_eq_true, cond_false, stoked_eq, Option.bind_some]
        | false =>
          have hne' : TT (withB b x) ≠ [] := fun h2 => by rw [h2] at hT; cases hT
          have LL : Less (TT (withB b x)) (TT b) := ⟨hne', fun t ht => with_less ht⟩
          have hb : (TT b).isEmpty = false := by
            cases hb : (TT b).isEmpty with
            | false => rfl
            | true => exact (LL.ne2 (List.isEmpty_iff.1 hb)).elim
          obtain ⟨u, u1, U⟩ := eats_law V A he2
          obtain ⟨y, y1, Y⟩ := eats_law V' A' (e := e) he2
          obtain ⟨o, o1, O⟩ := order_law V A
          obtain ⟨p, p1, P⟩ := order_law V' A'
          have wb := wind_law V A hd2
          have wx := wind_law V' A' (d := d) hd2
          have kb := lasts_law V A hd2
          have kx := lasts_law V' A' (d := d) hd2
          rw [hb] at u1 o1 wb kb
          rw [hT] at y1 p1 wx kx
          have q3 := LL.order (O LL.ne2) (P hne')
          have q4 := LL.wind (d := d) fun t ht => by
            have := (truths_tru (opn_op V A []) ht).1.wi d hd2
            unfold windAt; omega
          have q5 := LL.kind d
          simp only [hb, cond_false, bne_self_eq_false, u1, y1, wb, wx, o1, p1, kb, kx, Option.bind_some, beq_self_eq_true, cond_true, covers_eq (LL.span S T), covers_eq (LL.span U Y), Bool.not_true]
          rw [q4.1, show (((windSet d (TT (withB b x)) : Nat) : Int) != 0) = true by rw [bne_iff_ne]; exact q4.2, decide_eq_true q3]
          simp only [beq_self_eq_true, cond_true, stoked_eq, Option.bind_some]
          cases hk : (kind (TT b) d == 1) with
          | true => rw [cond_true]
          | false =>
            rcases q5 with q5 | q5
            · rw [q5] at hk; cases hk
            · rw [q5, beq_self_eq_true, cond_false, cond_true]
end Go.Proofs.YticodohfokgjfaaDoor

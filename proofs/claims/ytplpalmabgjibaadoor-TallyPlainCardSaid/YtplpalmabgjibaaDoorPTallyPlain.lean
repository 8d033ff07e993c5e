/- The plain law of a book without counts, and with one. -/
import Derived.Test.YtplpalmabgjibaaDoorWTallyPlain
import Derived.Test.YtplpalmabgjibaaDoorPAgain
import Derived.Test.YtplpalmabgjibaaDoorPCounted
set_option linter.unusedVariables false
set_option linter.unusedSimpArgs false
namespace Go.Proofs.YtplpalmabgjibaaDoor
open Go Go.Fx Go.Tally
theorem mod_ok (a m : Int) (h : 0 < m) (h2 : m ≤ 4611686018427387904) : ∃ r, B_Mod a m = some r ∧ 0 ≤ r ∧ r < m := by
  unfold B_Mod modI
  rw [decide_eq_false (by omega), cond_false, need_of (by simp; omega)]
  have h3 := Int.tmod_lt_of_pos a h
  have h4 := Int.lt_tmod_of_pos a h
  by_cases hn : a.tmod m < 0
  · rw [decide_eq_true hn, cond_true, wrI (by omega) (by omega)]
    exact ⟨_, rfl, by omega, by omega⟩
  · rw [decide_eq_false hn, cond_false]
    exact ⟨_, rfl, by omega, by omega⟩
/-- up from place f on, by r a trip, until v -/
def climb (f r : Int) (k : Nat) : Int := r * (if (k : Int) ≤ f then 0 else (k : Int) - f)
def ramp (f r v : Int) (k : Nat) : Int := if v ≤ climb f r k then v else climb f r k
theorem climb_step {f r : Int} (r0 : 0 ≤ r) (k : Nat) : climb f r k ≤ climb f r (k + 1) ∧ climb f r (k + 1) ≤ climb f r k + r := by
  unfold climb
  by_cases h : (k : Int) ≤ f
  · rw [if_pos h]
    by_cases h2 : ((k + 1 : Nat) : Int) ≤ f
    · rw [if_pos h2]; omega
    · rw [if_neg h2, show ((k + 1 : Nat) : Int) - f = 1 by omega]; omega
  · rw [if_neg h, if_neg (by omega), show ((k + 1 : Nat) : Int) - f = ((k : Int) - f) + 1 by omega, Int.mul_add]; omega
theorem climb_zero {f r : Int} {k : Nat} (h : (k : Int) ≤ f) : climb f r k = 0 := by unfold climb; rw [if_pos h, Int.mul_zero]
theorem climb_mono {f r : Int} (r0 : 0 ≤ r) {j k : Nat} (h : j ≤ k) : climb f r j ≤ climb f r k := by
  induction h with
  | refl => exact Int.le_refl _
  | step _ ih => exact Int.le_trans ih (climb_step r0 _).1
theorem ramp_steps {f r v t : Int} (r0 : 0 ≤ r) : Steps t r (ramp f r v) := by
  intro k _
  have := climb_step (f := f) r0 k
  unfold ramp
  split <;> split <;> omega
theorem ramp_low {f r v : Int} (v0 : 0 ≤ v) {k : Nat} (h : (k : Int) ≤ f) : ramp f r v k = 0 := by
  unfold ramp; rw [climb_zero h]; split <;> omega
theorem ramp_high {f r v : Int} {k : Nat} (h : v ≤ climb f r k) : ramp f r v k = v := by unfold ramp; rw [if_pos h]
/-- one trip more that all cross -/
def jump (o r : Int) (q : Nat → Int) (k : Nat) : Int := q k + (if (k : Int) ≤ o then 0 else r)
theorem jump_steps {t r : Int} {q : Nat → Int} (h : Steps t r q) {o : Nat} (ho : (o : Int) < t) (r0 : 0 ≤ r) (he : q (o + 1) = q o) : Steps t r (jump o r q) := by
  intro k hk
  have := h k hk
  unfold jump
  by_cases hko : k = o
  · subst hko; split <;> split <;> omega
  · split <;> split <;> omega
set_option maxHeartbeats 1000000 in
theorem plain_law (a : List Int) : law_TallyPlain a = some true := by
  unfold law_TallyPlain
  obtain ⟨r6, e6, h6⟩ := mod_ok (aget a 0) 8 (by omega) (by omega)
  obtain ⟨R, e8, h8⟩ := mod_ok (aget a 1) 61 (by omega) (by omega)
  rw [e6, Option.bind_some, e8, Option.bind_some, wrI (x := 1 + r6) (by omega) (by omega)]
  obtain ⟨T, hT⟩ : ∃ T, 1 + r6 = T := ⟨_, rfl⟩
  rw [hT]
  have t1 : 1 ≤ T := by omega
  have t8 : T ≤ 8 := by omega
  clear e6 e8
  obtain ⟨f, ef, hf⟩ := mod_ok (aget a 2) T (by omega) (by omega)
  rw [ef, Option.bind_some, wrI (x := T - f) (by omega) (by omega)]
  obtain ⟨n, en, hn⟩ := mod_ok (aget a 3) (T - f) (by omega) (by omega)
  rw [en, Option.bind_some]
  obtain ⟨told, eo, ho⟩ := mod_ok (aget a 4) 100 (by omega) (by omega)
  rw [eo, Option.bind_some, wrI (x := f + n) (by omega) (by omega)]
  obtain ⟨to, hto⟩ : ∃ to, f + n = to := ⟨_, rfl⟩
  rw [hto]
  have V : Val ⟨T, R, []⟩ := ⟨t1, t8, h8.1, by simp only; omega, by simp, fun x hx => (List.not_mem_nil hx).elim⟩
  have r0 : 0 ≤ R := h8.1
  have mostb := room_mul V.bk (n := to - f + 1) (by omega) (by omega)
  simp only at mostb
  obtain ⟨most, hmost⟩ : ∃ most, R * (to - f + 1) = most := ⟨_, rfl⟩
  rw [hmost] at mostb
  have cl : climb f R (to + 1).toNat = most := by
    unfold climb
    rw [if_neg (by omega), ← hmost, show (((to + 1).toNat : Int) - f) = to - f + 1 by omega]
  have C : CanBe ⟨T, R, []⟩ := ⟨ramp f R 0, fit_none.2 (ramp_steps r0)⟩
  have S : Spn (Fit ⟨T, R, []⟩ no) f.toNat (to + 1).toNat 0 most := by
    refine ⟨⟨ramp f R 0, fit_none.2 (ramp_steps r0), ?_⟩, ⟨ramp f R most, fit_none.2 (ramp_steps r0), ?_⟩, fun q hq => ?_⟩
    · rw [ramp_high (by rw [cl]; omega), ramp_low (by omega) (by omega)]; omega
    · rw [ramp_high (by rw [cl]; omega), ramp_low (by omega) (by omega)]; omega
    · have := fit_bnd V.bk hq (a := f.toNat) (c := (to + 1).toNat) (by omega) (by simp only; omega)
      simp only at this
      rw [show (((to + 1).toNat : Int) - f.toNat) = to - f + 1 by omega, hmost] at this
      exact this
  have ST : Spn (Fit ⟨T, R, []⟩ no) 0 T.toNat 0 (R * T) := by
    have c0 : climb 0 R T.toNat = R * T := by
      unfold climb; rw [if_neg (by omega), show ((T.toNat : Int) - 0) = T by omega]
    have hm := room_mul V.bk (n := T) (by omega) (by omega)
    simp only at hm
    refine ⟨⟨ramp 0 R 0, fit_none.2 (ramp_steps r0), ?_⟩, ⟨ramp 0 R (R * T), fit_none.2 (ramp_steps r0), ?_⟩, fun q hq => ?_⟩
    · rw [ramp_high (by rw [c0]; omega), ramp_low (by omega) (by omega)]; omega
    · rw [ramp_high (by rw [c0]; omega), ramp_low (by omega) (by omega)]; omega
    · have := fit_bnd V.bk hq (a := 0) (c := T.toNat) (by omega) (by simp only; omega)
      simp only at this
      rw [show ((T.toNat : Int) - ((0 : Nat) : Int)) = T by omega] at this
      exact this
  -- without counts
  obtain ⟨s, e, hs, hcase⟩ := many_law V (f := f) (t := to) ⟨by omega, by omega, by simp only; omega⟩
  rcases hcase with ⟨rfl, _, S1⟩ | ⟨_, _, hnc⟩
  case inr => exact absurd C hnc
  obtain ⟨z1, z2⟩ := S1.uniq S
  obtain ⟨t', e', ha, hz⟩ : ∃ t' e', tally_Again ⟨T, R, []⟩ = some (t', e') ∧ ((e' == 0) = decide (R > 0)) := by
    rcases again_eq V C ST with ⟨h, ha⟩ | ⟨h, t', w, ha, _⟩
    · refine ⟨0, 4, ha, ?_⟩
      have : R = 0 := by
        rcases Int.mul_eq_zero.1 h.symm with h | h <;> omega
      subst this; rfl
    · refine ⟨t', 0, ha, ?_⟩
      have : R ≠ 0 := fun h' => h (by rw [h', Int.zero_mul])
      rw [decide_eq_true (show R > 0 by omega)]; rfl
  rw [hs, Option.bind_some, ha, Option.bind_some]
  unfold B_Range
  simp only [Option.bind_some, bne_self_eq_false, cond_false]
  rw [wrI (x := to - f) (by omega) (by omega), wrI (x := to - f + 1) (by omega) (by omega), hmost, wrI (x := most) (by omega) (by omega)]
  rw [z1, z2, hz]
  simp only [beq_self_eq_true, Bool.and_self, Bool.not_true, cond_false, bne_self_eq_false]
  obtain ⟨un, eu, hu⟩ := mod_ok (aget a 5) 5 (by omega) (by omega)
  obtain ⟨ov, ev, hv⟩ := mod_ok (aget a 5) 3 (by omega) (by omega)
  rw [eu, Option.bind_some, ev, Option.bind_some]
  unfold law_count
  simp only [Option.bind_some]
  rw [wrI (x := told - ov) (by omega) (by omega), wrI (x := told + un) (by omega) (by omega)]
  obtain ⟨lo, hlo⟩ : ∃ lo, (if told - ov > 0 then told - ov else 0) = lo := ⟨_, rfl⟩
  obtain ⟨hi, hhi⟩ : ∃ hi, (if told + un < most then told + un else most) = hi := ⟨_, rfl⟩
  rw [hlo, hhi]
  have hlo' : 0 ≤ lo ∧ told - ov ≤ lo ∧ (lo = 0 ∨ lo = told - ov) := by rw [← hlo]; split <;> omega
  have hhi' : hi ≤ most ∧ hi ≤ told + un ∧ (hi = most ∨ hi = told + un) := by rw [← hhi]; split <;> omega
  have hcn : Cnt T ⟨0, f, to, told, 1, un, ov⟩ := by
    refine ⟨?_, ?_, ?_, ?_, ?_, ?_, ?_, ?_, ?_, ?_, ?_, ?_, ?_, ?_⟩ <;> simp only <;> omega
  have VX : Val ⟨T, R, [⟨0, f, to, told, 1, un, ov⟩]⟩ := ⟨t1, t8, h8.1, by simp only; omega, by simp, fun x hx => by rw [List.mem_singleton.1 hx]; exact cnt_iff.2 hcn⟩
  have cq : ∀ q : Nat → Int, CntQ ⟨0, f, to, told, 1, un, ov⟩ q ↔ told - ov ≤ q (to + 1).toNat - q f.toNat ∧ q (to + 1).toNat - q f.toNat ≤ told + un := by
    intro q; unfold CntQ leastV mostV; simp only [Int.mul_one]
  have bet : ∀ q : Nat → Int, Steps T R q → 0 ≤ q (to + 1).toNat - q f.toNat ∧ q (to + 1).toNat - q f.toNat ≤ most := fun q hq => S.all q (fit_none.2 hq)
  have atv : ∀ v, lo ≤ v → v ≤ hi → ramp f R v (to + 1).toNat - ramp f R v f.toNat = v := by
    intro v h1 h2
    rw [ramp_high (by rw [cl]; omega), ramp_low (by omega) (by omega)]; omega
  have fitv : ∀ v, lo ≤ v → v ≤ hi → Fit ⟨T, R, [⟨0, f, to, told, 1, un, ov⟩]⟩ no (ramp f R v) := by
    intro v h1 h2
    refine fit_one.2 ⟨ramp_steps r0, (cq _).2 ?_⟩
    rw [atv v h1 h2]; omega
  have canx : CanBe ⟨T, R, [⟨0, f, to, told, 1, un, ov⟩]⟩ ↔ lo ≤ hi := by
    constructor
    · rintro ⟨q, hq⟩
      obtain ⟨h1, h2⟩ := fit_one.1 hq
      have := bet q h1
      have := (cq q).1 h2
      omega
    · intro h; exact ⟨_, fitv lo (Int.le_refl _) h⟩
  obtain ⟨is, hr, hri⟩ := right_eq VX
  rw [hr, Option.bind_some]
  simp only [bne_self_eq_false, cond_false]
  have his : is = decide (lo ≤ hi) := by
    rw [Bool.eq_iff_iff, hri, canx]; simp
  rw [his]
  by_cases hlh : lo ≤ hi
  case neg =>
    rw [decide_eq_false hlh]
    simp only [bne_self_eq_false, cond_false, Bool.not_false, cond_true]
    rw [counted_t]; rfl
  rw [decide_eq_true hlh]
  simp only [bne_self_eq_false, cond_false, Bool.not_true]
  have CX := canx.2 hlh
  obtain ⟨s2, e2, hs2, hcase2⟩ := many_law VX (f := f) (t := to) ⟨by omega, by omega, by simp only; omega⟩
  rcases hcase2 with ⟨rfl, _, S2⟩ | ⟨_, _, hnc⟩
  case inr => exact absurd CX hnc
  have S2' : Spn (Fit ⟨T, R, [⟨0, f, to, told, 1, un, ov⟩]⟩ no) f.toNat (to + 1).toNat lo hi := by
    refine ⟨⟨_, fitv lo (Int.le_refl _) hlh, atv _ (Int.le_refl _) hlh⟩, ⟨_, fitv hi hlh (Int.le_refl _), atv _ hlh (Int.le_refl _)⟩, fun q hq => ?_⟩
    obtain ⟨h1, h2⟩ := fit_one.1 hq
    have := bet q h1
    have := (cq q).1 h2
    omega
  obtain ⟨z3, z4⟩ := S2.uniq S2'
  obtain ⟨ot, eot, hot⟩ := mod_ok (aget a 5) T (by omega) (by omega)
  obtain ⟨s3, e3, hs3, hcase3⟩ := many_law VX (f := ot) (t := ot) ⟨by omega, by omega, by simp only; omega⟩
  rcases hcase3 with ⟨rfl, _, S3⟩ | ⟨_, _, hnc⟩
  case inr => exact absurd CX hnc
  rw [hs2, Option.bind_some, eot, Option.bind_some, hs3, Option.bind_some]
  simp only [beq_self_eq_true, cond_true]
  rw [z3, z4]
  simp only [beq_self_eq_true, Bool.and_self, cond_true, cond_false]
  rw [inside_eq, Option.bind_some]
  cases hin : inB ot f to
  case true => rw [cond_true, counted_t]; rfl
  rw [cond_false]
  have hout : ¬ (f ≤ ot ∧ ot ≤ to) := fun h => by rw [inB_iff.2 h] at hin; cases hin
  have flat : ramp f R lo (ot.toNat + 1) = ramp f R lo ot.toNat := by
    by_cases h : ot < f
    · rw [ramp_low (by omega) (by omega), ramp_low (by omega) (by omega)]
    · have m1 := climb_mono (f := f) r0 (j := (to + 1).toNat) (k := ot.toNat) (by omega)
      have m2 := climb_mono (f := f) r0 (j := (to + 1).toNat) (k := ot.toNat + 1) (by omega)
      rw [cl] at m1 m2
      rw [ramp_high (by omega), ramp_high (by omega)]
  have S3' : Spn (Fit ⟨T, R, [⟨0, f, to, told, 1, un, ov⟩]⟩ no) ot.toNat (ot + 1).toNat 0 R := by
    have en : (ot + 1).toNat = ot.toNat + 1 := by omega
    refine ⟨⟨_, fitv lo (Int.le_refl _) hlh, by rw [en, flat]; omega⟩, ⟨jump ot.toNat R (ramp f R lo), fit_one.2 ⟨jump_steps (ramp_steps r0) (by omega) r0 flat, (cq _).2 ?_⟩, ?_⟩, fun q hq => ?_⟩
    · have hv := atv lo (Int.le_refl _) hlh
      unfold jump
      by_cases h : ot < f
      · rw [if_neg (by omega), if_neg (by omega)]; omega
      · rw [if_pos (by omega), if_pos (by omega)]; omega
    · unfold jump
      rw [en, flat, if_neg (by omega), if_pos (by omega)]; omega
    · have := (fit_one.1 hq).1 ot.toNat (by omega)
      rw [en]; omega
  obtain ⟨z5, z6⟩ := S3.uniq S3'
  rw [z5, z6, counted_t]
  simp
end Go.Proofs.YtplpalmabgjibaaDoor

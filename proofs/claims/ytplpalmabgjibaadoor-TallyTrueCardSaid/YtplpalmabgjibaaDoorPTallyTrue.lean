/- The plain law of who truly crossed. -/
import Derived.Test.YtplpalmabgjibaaDoorWTallyTrue
import Derived.Test.YtplpalmabgjibaaDoorPTallyWrong
import Derived.Test.YtplpalmabgjibaaDoorPTallyWhose
import Derived.Test.YtplpalmabgjibaaDoorPTruth
set_option linter.unusedVariables false
set_option linter.unusedSimpArgs false
namespace Go.Proofs.YtplpalmabgjibaaDoor
open Go Go.Fx Go.Tally
theorem div_eq {x y : Int} (h0 : 0 ≤ x) (h1 : 0 < y) (h2 : x ≤ 100000) : divI x y = x / y ∧ 0 ≤ x / y ∧ x / y ≤ x := by
  have a := Int.ediv_nonneg h0 (Int.le_of_lt h1)
  have b : x / y ≤ x := Int.ediv_le_self y h0
  unfold divI
  rw [Int.tdiv_eq_ediv_of_nonneg h0, wrI (by omega) (by omega)]
  exact ⟨rfl, a, b⟩
/-- a count of what truly crossed that is right -/
structure Rgt (b : TallyBook) (u : List Int) (x : TallyCount) : Prop where
  cnt : Cnt b.Trips x
  q : CntQ x (pre u)
theorem rightly_eq {b : TallyBook} (V : Val b) {u : List Int} (T : Tru b u) (n : Int) : ∃ x, law_rightly b u n = some x ∧ Val x ∧ x.Trips = b.Trips ∧ x.Room = b.Room ∧ ∀ y ∈ x.Counts, Rgt b u y := by
  have t8 := V.t8; have l8 := V.l8; have r60 := V.r60; have hul := T.len
  unfold law_rightly
  refine Exists.elim (loopF_inv (body := law_rightly_l8 b u n) (fun z : Int × List TallyCount => ∃ k : Nat, z.1 = k ∧ k ≤ b.Counts.length ∧ z.2.length ≤ k ∧ ∀ y ∈ z.2, Rgt b u y) (fun z => b.Counts.length - z.1.toNat)
    (fun x => ∃ m, x = ⟨b.Trips, b.Room, m⟩ ∧ m.length ≤ 8 ∧ ∀ y ∈ m, Rgt b u y) ?_ big (0, []) ⟨0, rfl, Nat.zero_le _, Nat.le_refl _, fun y hy => (List.not_mem_nil hy).elim⟩ (by unfold big; simp; omega)) fun x ⟨hx, m, hm, h1, h2⟩ => ⟨x, hx, ?_, by rw [hm], by rw [hm], by rw [hm]; exact h2⟩
  · rintro rec ⟨i, m⟩ ⟨k, rfl, hk, hml, hm⟩ ih
    simp only at hml hm ih ⊢
    unfold law_rightly_l8
    simp only
    by_cases hlt : k < b.Counts.length
    case neg =>
      rw [decide_eq_false (by omega), cond_false]
      exact ⟨_, rfl, m, rfl, by omega, hm⟩
    rw [decide_eq_true (by omega), cond_true, getI_nat, List.getElem?_eq_getElem hlt, Option.bind_some]
    have hx := List.getElem?_eq_getElem hlt
    generalize b.Counts[k] = x at hx
    have hc := cnt_iff.1 (V.cs x (List.mem_of_getElem? hx))
    obtain ⟨w0, w2, f0, ft, tT, o0, o99, u1, u20, d0, d30, v0, v30, st⟩ := hc
    rw [wrI (x := x.To + 1) (by omega) (by omega), cutI_eq (by omega) (by omega) (by omega), Option.bind_some]
    have hcb : ∀ y ∈ (u.take (x.To + 1).toNat).drop x.From.toNat, 0 ≤ y ∧ y ≤ 60 := fun y hy => by have := T.bnd y (mem_cut hy); omega
    rw [sumOf_eq (by simp; omega) hcb, Option.bind_some]
    have hsb := sum_bnd hcb
    have hlen : (((u.take (x.To + 1).toNat).drop x.From.toNat).length : Int) ≤ 8 := by simp; omega
    obtain ⟨al, hal⟩ : ∃ al, ((u.take (x.To + 1).toNat).drop x.From.toNat).sum = al := ⟨_, rfl⟩
    have hpre : pre u (x.To + 1).toNat - pre u x.From.toNat = al := by rw [← hal, pre_cut (by omega)]
    rw [hal] at hsb ⊢
    rw [need_of (by simp; omega), need_of (by simp; omega)]
    have skip : ∃ r, rec (Fx.wr ((k : Int) + 1), m) = some r ∧ ∃ m', r = ⟨b.Trips, b.Room, m'⟩ ∧ m'.length ≤ 8 ∧ ∀ y ∈ m', Rgt b u y := by
      rw [wrI (by omega) (by omega)]
      exact ih _ ⟨k + 1, by simp, by omega, by (try simp only); omega, hm⟩ (by (try simp only); omega)
    obtain ⟨g1, g2, g3⟩ := div_eq (x := al + x.Over) (y := x.Unit) (by omega) (by omega) (by omega)
    have g4 := Int.ediv_mul_le (al + x.Over) (b := x.Unit) (by omega)
    -- one more of them, or none
    have one : ∀ lo : Int, 0 ≤ lo → al ≤ lo * x.Unit + x.Under → ∃ r, law_rightly_j7 al x n ((k : Int), m) rec lo = some r ∧ ∃ m', r = ⟨b.Trips, b.Room, m'⟩ ∧ m'.length ≤ 8 ∧ ∀ y ∈ m', Rgt b u y := by
      intro lo h0 h1
      unfold law_rightly_j7
      simp only
      rw [wrI (x := al + x.Over) (by omega) (by omega), g1]
      obtain ⟨hi, hhi⟩ : ∃ hi, (if 99 < (al + x.Over) / x.Unit then 99 else (al + x.Over) / x.Unit) = hi := ⟨_, rfl⟩
      have hh : hi ≤ 99 ∧ hi ≤ (al + x.Over) / x.Unit := by rw [← hhi]; split <;> omega
      rw [hhi]
      by_cases hle : lo ≤ hi
      · rw [decide_eq_true hle, cond_true]
        unfold B_Range B_Within
        simp only [Option.bind_some]
        rw [wrI (x := hi - lo) (by omega) (by omega), wrI (x := hi - lo + 1) (by omega) (by omega)]
        obtain ⟨t, ht, ht0, ht1⟩ := mod_ok (Fx.wr (n + (k : Int))) (hi - lo + 1) (by omega) (by omega)
        rw [ht]
        simp only [Option.bind_some]
        rw [wrI (x := lo + t) (by omega) (by omega), need_of (by simp [fitsL]; omega), wrI (by omega) (by omega)]
        refine ih _ ⟨k + 1, by simp, by omega, by simp; omega, fun y hy => ?_⟩ (by (try simp only); omega)
        rcases List.mem_append.1 hy with hy | hy
        · exact hm y hy
        · rw [List.mem_singleton.1 hy]
          refine ⟨⟨w0, w2, f0, ft, tT, by (try simp only); omega, by (try simp only); omega, u1, u20, d0, d30, v0, v30, st⟩, ?_⟩
          unfold CntQ leastV mostV
          simp only
          rw [hpre]
          have m1 : lo * x.Unit ≤ (lo + t) * x.Unit := Int.mul_le_mul_of_nonneg_right (by omega) (by omega)
          have m2 : (lo + t) * x.Unit ≤ (al + x.Over) / x.Unit * x.Unit := Int.mul_le_mul_of_nonneg_right (by omega) (by omega)
          omega
      · rw [decide_eq_false hle, cond_false]
        exact skip
    by_cases hau : al < x.Under
    · rw [decide_eq_true hau, cond_true]
      exact one 0 (Int.le_refl _) (by omega)
    · rw [decide_eq_false hau, cond_false]
      rw [wrI (x := al - x.Under) (by omega) (by omega), wrI (x := al - x.Under + x.Unit) (by omega) (by omega), wrI (x := al - x.Under + x.Unit - 1) (by omega) (by omega)]
      obtain ⟨e1, e2, e3⟩ := div_eq (x := al - x.Under + x.Unit - 1) (y := x.Unit) (by omega) (by omega) (by omega)
      have e4 := Int.lt_ediv_add_one_mul_self (al - x.Under + x.Unit - 1) (show 0 < x.Unit by omega)
      rw [e1]
      obtain ⟨lo, hlo⟩ : ∃ lo, (al - x.Under + x.Unit - 1) / x.Unit = lo := ⟨_, rfl⟩
      rw [hlo] at e2 e4 ⊢
      rw [show (if lo > 0 then lo else 0) = lo by split <;> omega]
      refine one lo e2 ?_
      rw [Int.add_mul] at e4
      omega
  · subst hm
    exact ⟨V.t1, V.t8, V.r0, V.r60, h1, fun y hy => cnt_iff.2 (h2 y hy).cnt⟩
theorem law_tallyTrue (b : TallyBook) (hl : b.Counts.length ≤ 9223372036854775807) (bits : List Int) (hb : bits.length ≤ 9223372036854775807) (a : List Int) : law_TallyTrue b bits a = some true := by
  unfold law_TallyTrue
  rw [sound_eq b hl, Option.bind_some]
  cases hv : valB b
  case false => simp only [Bool.not_false, cond_true]; rw [counted_t]; rfl
  simp only [Bool.not_true, cond_false]
  have V := val_iff.1 hv
  have t1 := V.t1; have t8 := V.t8; have r60 := V.r60
  obtain ⟨u, hu, T⟩ := truly_eq V hb
  have hul := T.len
  obtain ⟨x, hx, VX, hxT, hxR, hxc⟩ := rightly_eq V T (aget a 0)
  have TX : Tru x u := ⟨by rw [hxT]; exact hul, by rw [hxR]; exact T.bnd⟩
  have hfit : Fit x no (pre u) := ⟨TX.steps, cntsQ_no.2 fun y hy => (hxc y hy).q⟩
  have C : CanBe x := ⟨_, hfit⟩
  obtain ⟨f, ef, hf⟩ := mod_ok (aget a 1) b.Trips (by omega) (by omega)
  rw [hu, Option.bind_some, hx, Option.bind_some, ef, Option.bind_some, wrI (x := b.Trips - f) (by omega) (by omega)]
  obtain ⟨n, en, hn⟩ := mod_ok (aget a 2) (b.Trips - f) (by omega) (by omega)
  rw [en, Option.bind_some, wrI (x := f + n) (by omega) (by omega), wrI (x := f + n + 1) (by omega) (by omega)]
  obtain ⟨is, hr, hri⟩ := right_eq VX
  obtain ⟨can, hc, hci⟩ := can_law VX TX
  obtain ⟨w, hw, F⟩ := wrong_eq VX
  obtain ⟨l, hlq, W⟩ := whose_eq VX
  obtain ⟨s, e, hs, hsc⟩ := many_law VX (f := f) (t := f + n) ⟨by omega, by omega, by rw [hxT]; omega⟩
  obtain ⟨p, e2, hp, hpc⟩ := pays_law VX (r := 3) ⟨by omega, by omega⟩
  rcases hsc with ⟨rfl, _, S⟩ | ⟨_, _, C'⟩
  case inr => exact absurd C C'
  rcases hpc with ⟨rfl, _, lo, hi, rfl, S2⟩ | ⟨_, _, C'⟩
  case inr => exact absurd C C'
  have his := hri.2 C
  have hcan := hci.2 hfit
  subst his hcan
  have hwn : w = [] := F.nil_iff.2 C
  have h3 : l.length = 3 := W.all fun v hv => ⟨pre u, hfit.weak fun i y hy ho => by cases ho⟩
  rw [hr, Option.bind_some, hc, Option.bind_some, hw, Option.bind_some, hlq, Option.bind_some, hs, Option.bind_some, hp, Option.bind_some, hwn]
  simp only [beq_self_eq_true, cond_true, List.length_nil]
  rw [show ((l.length : Int) == 3) = true by simp; omega, cond_true]
  have bnd : ∀ y ∈ u, 0 ≤ y ∧ y ≤ 60 := fun y hy => by have := T.bnd y hy; omega
  have us := sum_bnd bnd
  rw [cutI_eq (by omega) (by omega) (by omega), Option.bind_some, sumOf_eq (by simp; omega) (fun y hy => bnd y (mem_cut hy)), Option.bind_some, pre_cut (by omega), sumOf_eq (by omega) bnd]
  have g1 := S.all _ hfit
  have g2 := S2.all _ hfit
  have e0 : pre u 0 = 0 := by simp [pre]
  have eT : pre u x.Trips.toNat = u.sum := by
    unfold pre
    rw [List.take_of_length_le (by rw [hxT]; omega)]
  rw [e0, eT] at g2
  unfold B_Contains
  rw [inside_eq, Option.bind_some, inB_iff.2 g1, Option.bind_some, cond_true, Option.bind_some, wrI (x := 3 * u.sum) (by omega) (by omega), inside_eq, Option.bind_some, inB_iff.2 (by simp only; omega), Option.bind_some, cond_true, counted_t]
  rfl
end Go.Proofs.YtplpalmabgjibaaDoor

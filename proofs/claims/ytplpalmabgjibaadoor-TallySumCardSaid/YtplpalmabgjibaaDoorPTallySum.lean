/- The plain law of trips that follow one another, and of what is paid. -/
import Derived.Test.YtplpalmabgjibaaDoorWTallySum
import Derived.Test.YtplpalmabgjibaaDoorPAgain
import Derived.Test.YtplpalmabgjibaaDoorPCounted
set_option linter.unusedVariables false
set_option linter.unusedSimpArgs false
namespace Go.Proofs.YtplpalmabgjibaaDoor
open Go Go.Fx Go.Tally
theorem law_tallySum (b : TallyBook) (hl : b.Counts.length ≤ 9223372036854775807) (a : List Int) : law_TallySum b a = some true := by
  unfold law_TallySum
  rw [sound_eq b hl, Option.bind_some]
  cases hv : valB b
  case false => simp only [Bool.not_false, cond_true]; rw [counted_t]; rfl
  simp only [Bool.not_true, cond_false]
  have V := val_iff.1 hv
  have t1 := V.t1; have t8 := V.t8
  obtain ⟨f, ef, hf⟩ := mod_ok (aget a 0) b.Trips (by omega) (by omega)
  rw [ef, Option.bind_some, wrI (x := b.Trips - f) (by omega) (by omega)]
  obtain ⟨n, en, hn⟩ := mod_ok (aget a 1) (b.Trips - f) (by omega) (by omega)
  obtain ⟨rate, er, hr⟩ := mod_ok (aget a 3) 100 (by omega) (by omega)
  rw [en, Option.bind_some, er, Option.bind_some, wrI (x := f + n) (by omega) (by omega), wrI (x := b.Trips - 1) (by omega) (by omega)]
  obtain ⟨to, hto⟩ : ∃ to, f + n = to := ⟨_, rfl⟩
  rw [hto]
  obtain ⟨s, e, hs, hc⟩ := many_law V (f := f) (t := to) ⟨by omega, by omega, by omega⟩
  obtain ⟨s2, e2, hs2, hc2⟩ := many_law V (f := 0) (t := b.Trips - 1) ⟨by omega, by omega, by omega⟩
  obtain ⟨s3, e3, hs3, hc3⟩ := pays_law V (r := rate) ⟨by omega, by omega⟩
  rw [hs, Option.bind_some, hs2, Option.bind_some, hs3, Option.bind_some]
  rcases hc with ⟨rfl, C, S⟩ | ⟨rfl, rfl, C⟩
  case inr =>
    rcases hc2 with ⟨_, C', _⟩ | ⟨rfl, rfl, _⟩
    · exact absurd C' C
    rcases hc3 with ⟨_, C', _⟩ | ⟨rfl, rfl, _⟩
    · exact absurd C' C
    rw [counted_t]; rfl
  rcases hc2 with ⟨rfl, _, S2⟩ | ⟨_, _, C'⟩
  case inr => exact absurd C C'
  rcases hc3 with ⟨rfl, _, lo, hi, rfl, S3⟩ | ⟨_, _, C'⟩
  case inr => exact absurd C C'
  rw [show (b.Trips - 1 + 1).toNat = b.Trips.toNat by omega, show (0 : Int).toNat = 0 from rfl] at S2
  obtain ⟨z1, z2⟩ := S2.uniq S3
  have hb := S3.bnd V.bk (Nat.zero_le _) (by omega)
  have m1 : 0 ≤ rate * lo ∧ rate * lo ≤ 99 * 480 := ⟨Int.mul_nonneg (by omega) (by omega), Int.mul_le_mul (by omega) (by omega) (by omega) (by omega)⟩
  have m2 : 0 ≤ rate * hi ∧ rate * hi ≤ 99 * 480 := ⟨Int.mul_nonneg (by omega) (by omega), Int.mul_le_mul (by omega) (by omega) (by omega) (by omega)⟩
  have part : s.Low ≤ s2.Low ∧ s.High ≤ s2.High := by
    obtain ⟨p, hp, ep⟩ := S2.loE
    obtain ⟨q, hq, eq⟩ := S.hiE
    have a1 := S.all p hp
    have a2 := S2.all q hq
    have b1 := fit_bnd V.bk hp (a := 0) (c := f.toNat) (by omega) (by omega)
    have b2 := fit_bnd V.bk hp (a := (to + 1).toNat) (c := b.Trips.toNat) (by omega) (by omega)
    have b3 := fit_bnd V.bk hq (a := 0) (c := f.toNat) (by omega) (by omega)
    have b4 := fit_bnd V.bk hq (a := (to + 1).toNat) (c := b.Trips.toNat) (by omega) (by omega)
    omega
  unfold B_Range
  simp only [Option.bind_some, bne_self_eq_false, cond_false]
  rw [z1, z2, wrI (x := rate * lo) (by omega) (by omega), wrI (x := rate * hi) (by omega) (by omega), Int.mul_comm lo rate, Int.mul_comm hi rate]
  rw [z1, z2] at part
  simp only [beq_self_eq_true, Bool.and_self, Bool.not_true, cond_false]
  rw [decide_eq_false (by omega), cond_false, decide_eq_false (by omega), cond_false]
  by_cases hft : f = to
  · rw [show (f == to) = true by simpa using hft, cond_true, counted_t]; rfl
  rw [show (f == to) = false by simpa using hft, cond_false, wrI (x := to - f) (by omega) (by omega)]
  obtain ⟨c, ec, hcc⟩ := mod_ok (aget a 2) (to - f) (by omega) (by omega)
  rw [ec, Option.bind_some, wrI (x := f + c) (by omega) (by omega), wrI (x := f + c + 1) (by omega) (by omega)]
  obtain ⟨u1, g1, hu1, hd1⟩ := many_law V (f := f) (t := f + c) ⟨by omega, by omega, by omega⟩
  obtain ⟨u2, g2, hu2, hd2⟩ := many_law V (f := f + c + 1) (t := to) ⟨by omega, by omega, by omega⟩
  rcases hd1 with ⟨rfl, _, T1⟩ | ⟨_, _, C'⟩
  case inr => exact absurd C C'
  rcases hd2 with ⟨rfl, _, T2⟩ | ⟨_, _, C'⟩
  case inr => exact absurd C C'
  have k1 := T1.bnd V.bk (by omega) (by omega)
  have k2 := T2.bnd V.bk (by omega) (by omega)
  rw [hu1, Option.bind_some, hu2, Option.bind_some]
  unfold B_Added B_Range
  simp only [Option.bind_some]
  rw [wrI (x := u1.Low + u2.Low) (by omega) (by omega), wrI (x := u1.High + u2.High) (by omega) (by omega)]
  have sum : u1.Low + u2.Low ≤ s.Low ∧ s.High ≤ u1.High + u2.High := by
    obtain ⟨p, hp, ep⟩ := S.loE
    obtain ⟨q, hq, eq⟩ := S.hiE
    have a1 := T1.all p hp; have a2 := T2.all p hp
    have a3 := T1.all q hq; have a4 := T2.all q hq
    omega
  rw [decide_eq_true (show s.Low ≥ u1.Low + u2.Low by omega), decide_eq_true (show s.High ≤ u1.High + u2.High by omega), counted_t]
  rfl
end Go.Proofs.YtplpalmabgjibaaDoor

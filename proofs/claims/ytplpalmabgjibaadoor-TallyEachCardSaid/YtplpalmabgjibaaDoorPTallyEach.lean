/- The plain law of each number from one end to the other. -/
import Derived.Test.YtplpalmabgjibaaDoorWTallyEach
import Derived.Test.YtplpalmabgjibaaDoorPAgain
import Derived.Test.YtplpalmabgjibaaDoorPCounted
set_option linter.unusedVariables false
set_option linter.unusedSimpArgs false
namespace Go.Proofs.YtplpalmabgjibaaDoor
open Go Go.Fx Go.Tally
def told (f t v : Int) : TallyCount := ⟨2, f, t, v, 1, 0, 0⟩
theorem told_q {f t v : Int} {q : Nat → Int} : CntQ (told f t v) q ↔ q (t + 1).toNat - q f.toNat = v := by
  unfold CntQ leastV mostV told
  simp only
  omega
theorem told_cnt {T f t v : Int} (h0 : 0 ≤ f) (hft : f ≤ t) (h1 : t < T) (h2 : 0 ≤ v) (h3 : v ≤ 99) : Cnt T (told f t v) := by
  refine ⟨?_, ?_, h0, hft, h1, h2, h3, ?_, ?_, ?_, ?_, ?_, ?_, ?_⟩ <;> simp only [told] <;> omega
theorem law_tallyEach (b : TallyBook) (hl : b.Counts.length ≤ 9223372036854775807) (a : List Int) : law_TallyEach b a = some true := by
  unfold law_TallyEach
  rw [sound_eq b hl, Option.bind_some]
  cases hv : valB b
  case false => simp only [Bool.not_false, cond_true]; rw [counted_t]; rfl
  simp only [Bool.not_true, cond_false]
  have V := val_iff.1 hv
  have t1 := V.t1; have t8 := V.t8
  obtain ⟨f, ef, hf⟩ := mod_ok (aget a 0) b.Trips (by omega) (by omega)
  rw [ef, Option.bind_some, wrI (x := b.Trips - f) (by omega) (by omega)]
  obtain ⟨n, en, hn⟩ := mod_ok (aget a 1) (b.Trips - f) (by omega) (by omega)
  rw [en, Option.bind_some, wrI (x := f + n) (by omega) (by omega)]
  obtain ⟨s, e, hs, hc⟩ := many_law V (f := f) (t := f + n) ⟨by omega, by omega, by omega⟩
  rw [hs, Option.bind_some]
  rcases hc with ⟨rfl, C, S⟩ | ⟨rfl, rfl, C⟩
  case inr =>
    obtain ⟨r, g, hfit, hg⟩ := fits_law V (told_cnt (f := f) (t := f + n) (v := 0) (by omega) (by omega) (by omega) (by omega) (by omega))
    rcases hg with ⟨_, C', _⟩ | ⟨rfl, rfl, _⟩
    · exact absurd C' C
    unfold law_count B_Point B_Range
    simp only [Option.bind_some]
    rw [show (⟨2, f, f + n, 0, 1, 0, 0⟩ : TallyCount) = told f (f + n) 0 from rfl, hfit, counted_t]
    rfl
  have hb := S.bnd V.bk (by omega) (by omega)
  rw [show (((f + n + 1).toNat : Int) - f.toNat) = n + 1 by omega] at hb
  have hm := room_mul V.bk (n := n + 1) (by omega) (by omega)
  simp only [bne_self_eq_false, cond_false]
  rw [wrI (x := f + n - f) (by omega) (by omega), show f + n - f = n by omega, wrI (x := n + 1) (by omega) (by omega), wrI (x := b.Room * (n + 1)) (by omega) (by omega)]
  rw [decide_eq_false (by omega), cond_false, decide_eq_false (by omega), cond_false, decide_eq_false (by omega), cond_false]
  unfold B_Within
  rw [wrI (x := s.High - s.Low) (by omega) (by omega), wrI (x := s.High - s.Low + 1) (by omega) (by omega)]
  obtain ⟨w, ew, hw⟩ := mod_ok (aget a 2) (s.High - s.Low + 1) (by omega) (by omega)
  rw [ew]
  simp only [Option.bind_some]
  rw [wrI (x := s.Low + w) (by omega) (by omega)]
  -- each number of the list fits just if it is one of the first three
  have fit : ∀ v, 0 ≤ v → v ≤ 99 → ∃ r, tally_Fits b (told f (f + n) v) = some (r, 0) ∧ (r = true ↔ s.Low ≤ v ∧ v ≤ s.High) := by
    intro v h0 h9
    obtain ⟨r, g, hfit, hg⟩ := fits_law V (told_cnt (f := f) (t := f + n) (v := v) (by omega) (by omega) (by omega) h0 h9)
    rcases hg with ⟨rfl, _, hr⟩ | ⟨_, _, C'⟩
    · refine ⟨r, hfit, hr.trans ?_⟩
      constructor
      · rintro ⟨q, hq⟩
        obtain ⟨h1, h2⟩ := fit_plus.1 hq
        have := S.all q h1
        have := told_q.1 h2
        omega
      · rintro ⟨h1, h2⟩
        obtain ⟨q, hq, eq⟩ := S.mid h1 h2
        exact ⟨q, fit_plus.2 ⟨hq, told_q.2 eq⟩⟩
    · exact absurd C C'
  refine loopF_spec (body := law_TallyEach_l1 (s, 0) (s.Low + w) f n b) (fun i : Int => 0 ≤ i ∧ i ≤ 5) (fun i => 5 - i.toNat) (fun _ => true) ?_ big 0 ⟨by omega, by omega⟩ (by unfold big; simp)
  rintro rec i ⟨h0, h5⟩ ih
  unfold law_TallyEach_l1
  simp only [List.length_cons, List.length_nil]
  rw [wrI (x := s.Low - 1) (by omega) (by omega), wrI (x := s.High + 1) (by omega) (by omega), wrI (x := f + n) (by omega) (by omega)]
  by_cases hi : i < 5
  case neg => rw [decide_eq_false (by omega), cond_false, counted_t]; rfl
  rw [decide_eq_true (by omega), cond_true]
  obtain ⟨v, hv1, hv2⟩ : ∃ v, getI [s.Low, s.High, s.Low + w, s.Low - 1, s.High + 1] i = some v ∧ ((i < 3) ↔ s.Low ≤ v ∧ v ≤ s.High) := by
    have : i = 0 ∨ i = 1 ∨ i = 2 ∨ i = 3 ∨ i = 4 := by omega
    rcases this with rfl | rfl | rfl | rfl | rfl
    · exact ⟨_, rfl, by omega⟩
    · exact ⟨_, rfl, by omega⟩
    · exact ⟨_, rfl, by omega⟩
    · exact ⟨_, rfl, by omega⟩
    · exact ⟨_, rfl, by omega⟩
  rw [hv1, Option.bind_some, inside_eq, Option.bind_some, wrI (x := i + 1) (by omega) (by omega)]
  have next : rec (i + 1) = some true := ih _ ⟨by omega, by omega⟩ (by omega)
  cases hin : inB v 0 99
  case false => rw [Bool.not_false, cond_true, next]
  rw [Bool.not_true, cond_false, Option.bind_some]
  unfold law_count
  rw [Option.bind_some]
  obtain ⟨r, hr, hri⟩ := fit v (inB_iff.1 hin).1 (inB_iff.1 hin).2
  rw [show (⟨2, f, f + n, v, 1, 0, 0⟩ : TallyCount) = told f (f + n) v from rfl, hr, Option.bind_some]
  simp only [bne_self_eq_false, cond_false]
  have : r = decide (i < 3) := by rw [Bool.eq_iff_iff, hri, ← hv2]; simp
  rw [this, bne_self_eq_false, cond_false, next]
end Go.Proofs.YtplpalmabgjibaaDoor

/- The plain law of the trip that is to be counted again. -/
import Derived.Test.YtplpalmabgjibaaDoorWTallyAgain
import Derived.Test.YtplpalmabgjibaaDoorPAgain
import Derived.Test.YtplpalmabgjibaaDoorPCounted
set_option linter.unusedVariables false
set_option linter.unusedSimpArgs false
namespace Go.Proofs.YtplpalmabgjibaaDoor
open Go Go.Fx Go.Tally
theorem plus_val {b : TallyBook} (V : Val b) (h7 : b.Counts.length ≤ 7) {x : TallyCount} (hx : Cnt b.Trips x) : Val (plus b x) := by
  have B := V.plus hx
  exact ⟨B.t1, B.t8, B.r0, B.r60, by simp [plus]; omega, B.cs⟩
/-- the law's own reckoning of how far apart both ends are at the worst -/
theorem apart_eq {b : TallyBook} (V : Val b) (h7 : b.Counts.length ≤ 7) (C : CanBe b) {t : Int} (h0 : 0 ≤ t) (hT : t < b.Trips) : ∃ w, law_apart b t = some w ∧ Apart b t w ∧ 0 ≤ w := by
  have t8 := V.t8
  obtain ⟨s, e, hs, hc⟩ := many_law V (f := t) (t := t) ⟨by omega, by omega, by omega⟩
  rcases hc with ⟨rfl, _, S⟩ | ⟨_, _, C'⟩
  case inr => exact absurd C C'
  have hr := trip_room V.bk h0 hT S
  unfold law_apart
  rw [hs, Option.bind_some]
  simp only [bne_self_eq_false, cond_false]
  rw [wrI (x := s.High - s.Low) (by omega) (by omega), decide_eq_false (by omega), cond_false]
  refine Exists.elim (loopF_inv (body := law_apart_l1 (s, 0) b t) (fun z : Int × Int => ∃ n : Nat, z.2 = s.Low + n ∧ (n : Int) ≤ s.High - s.Low + 1 ∧ Wst b t s.Low n z.1) (fun z => (s.High + 1 - z.2).toNat) (fun w => Wst b t s.Low (s.High - s.Low + 1).toNat w) ?_ big (0, s.Low) ⟨0, by simp, by omega, Wst.zero⟩ (by unfold big; simp only; omega))
    fun w ⟨h1, h2⟩ => ⟨w, h1, ⟨s.Low, s.High, S, h2⟩, h2.1⟩
  rintro rec ⟨wst, v⟩ ⟨n, hvn, hn, hW⟩ ih
  simp only at hvn hn hW ih ⊢
  unfold law_apart_l1
  simp only
  by_cases hlt : v ≤ s.High
  case neg =>
    rw [decide_eq_false hlt, cond_false]
    exact ⟨_, rfl, by rw [show (s.High - s.Low + 1).toNat = n by omega]; exact hW⟩
  rw [decide_eq_true hlt, cond_true]
  have hcn : Cnt b.Trips (exact_ t v) := exact_cnt h0 hT (by omega) (by omega)
  have VP := plus_val V h7 hcn
  obtain ⟨s2, e2, hs2, hc2⟩ := many_law VP (f := 0) (t := b.Trips - 1) ⟨by omega, by omega, by show b.Trips - 1 < b.Trips; omega⟩
  rcases hc2 with ⟨rfl, _, S2⟩ | ⟨_, _, C'⟩
  case inr => exact absurd (plus_can V.bk S (by omega) (by omega)) C'
  rw [show (b.Trips - 1 + 1).toNat = b.Trips.toNat by omega, show (0 : Int).toNat = 0 from rfl] at S2
  have hb2 := S2.bnd VP.bk (Nat.zero_le _) (by show (b.Trips.toNat : Int) ≤ b.Trips; omega)
  have next : ∃ r, rec ((if s2.High - s2.Low > wst then s2.High - s2.Low else wst), v + 1) = some r ∧ Wst b t s.Low (s.High - s.Low + 1).toNat r :=
    ih _ ⟨n + 1, by simp only; omega, by omega, hW.step ⟨_, _, by rw [← hvn]; exact S2, rfl⟩ (by omega) (by omega)⟩ (by simp only; omega)
  have e1 : (⟨2, t, t, v, 1, 0, 0⟩ : TallyCount) = exact_ t v := rfl
  have fits1 : ∀ n : Nat, n ≤ 9 → fitsL n 56 = true := fun n hn => by simp [fitsL]; omega
  unfold law_count
  simp only [Option.bind_some]
  rw [wrI (x := b.Trips - 1) (by omega) (by omega), wrI (x := v + 1) (by omega) (by omega), e1]
  cases he : b.Counts.isEmpty
  · rw [cond_false, need_of (fits1 _ (by simp; omega)), need_of (fits1 _ (by simp; omega))]
    rw [show (⟨b.Trips, b.Room, b.Counts ++ [exact_ t v]⟩ : TallyBook) = plus b (exact_ t v) from rfl, hs2, Option.bind_some]
    simp only [bne_self_eq_false, cond_false]
    rw [wrI (x := s2.High - s2.Low) (by omega) (by omega)]
    exact next
  · rw [cond_true, need_of (fits1 _ (by simp))]
    have hnil : b.Counts = [] := List.isEmpty_iff.1 he
    rw [show (⟨b.Trips, b.Room, [exact_ t v]⟩ : TallyBook) = plus b (exact_ t v) by unfold plus; rw [hnil]; rfl, hs2, Option.bind_some]
    simp only [bne_self_eq_false, cond_false]
    rw [wrI (x := s2.High - s2.Low) (by omega) (by omega)]
    exact next
theorem again_no {b : TallyBook} (V : Val b) (C : ¬ CanBe b) : tally_Again b = some (0, 52) := by
  obtain ⟨m, e, ha, O, he⟩ := asked_eq V
  rcases he with ⟨_, C'⟩ | ⟨rfl, _⟩
  · exact absurd C' C
  unfold tally_Again
  rw [ha]; rfl
theorem law_tallyAgain (b : TallyBook) (hl : b.Counts.length ≤ 9223372036854775807) (a : Int) : law_TallyAgain b a = some true := by
  unfold law_TallyAgain
  rw [sound_eq b hl, Option.bind_some]
  cases hv : valB b
  case false => simp only [Bool.not_false, cond_true]; rw [counted_t]; rfl
  simp only [Bool.not_true, cond_false]
  have V := val_iff.1 hv
  have t1 := V.t1; have t8 := V.t8; have l8 := V.l8
  by_cases h8 : (b.Counts.length : Int) = 8
  · rw [show ((b.Counts.length : Int) == 8) = true by simpa using h8, cond_true, counted_t]; rfl
  rw [show ((b.Counts.length : Int) == 8) = false by simpa using h8, cond_false]
  have h7 : b.Counts.length ≤ 7 := by omega
  rw [wrI (x := b.Trips - 1) (by omega) (by omega)]
  obtain ⟨s, e, hs, hc⟩ := many_law V (f := 0) (t := b.Trips - 1) ⟨by omega, by omega, by omega⟩
  rcases hc with ⟨rfl, C, S⟩ | ⟨rfl, rfl, C⟩
  case inr => rw [again_no V C, Option.bind_some, hs, counted_t]; rfl
  rw [show (b.Trips - 1 + 1).toNat = b.Trips.toNat by omega, show (0 : Int).toNat = 0 from rfl] at S
  rcases again_eq V C S with ⟨hlh, ha⟩ | ⟨hlh, t, w, ha, h0, hT, hA, hmin⟩
  · rw [ha, Option.bind_some, hs, Option.bind_some]
    simp only [bne_self_eq_false, cond_false]
    rw [show (s.Low == s.High) = true by simpa using hlh]
    unfold law_TallyAgain_j1
    rw [inside_eq, show inB 0 0 (b.Trips - 1) = true from inB_iff.2 (by omega), counted_t]
    rfl
  · rw [ha, Option.bind_some, hs, Option.bind_some]
    simp only [bne_self_eq_false, cond_false]
    rw [show (s.Low == s.High) = false by simpa using hlh, inside_eq, show inB t 0 (b.Trips - 1) = true from inB_iff.2 (by omega), Option.bind_some]
    unfold law_TallyAgain_j1
    obtain ⟨o, eo, ho⟩ := mod_ok a b.Trips (by omega) (by omega)
    obtain ⟨x, ex, hx, x0⟩ := apart_eq V h7 C h0 hT
    obtain ⟨y, ey, hy, y0⟩ := apart_eq V h7 C (t := o) (by omega) (by omega)
    rw [eo, Option.bind_some, ex, Option.bind_some, ey, Option.bind_some, counted_t]
    have hxw := hA.uniq hx
    subst hxw
    have hm := hmin o y (by omega) (by omega) hy
    rw [decide_eq_true (show w ≥ 0 by omega), decide_eq_true (show y ≥ 0 by omega)]
    by_cases hlt : w < y
    · rw [decide_eq_true hlt]; rfl
    · rw [decide_eq_false hlt, show (w == y) = true by simp; omega, decide_eq_true (show t ≤ o by omega)]; rfl
end Go.Proofs.YtplpalmabgjibaaDoor

/- Plain facts: what the program and the specification both answer, for any book. -/
import Derived.Test.YtplpalmabgjibaaDoorZPMost2
import Derived.Test.YtplpalmabgjibaaDoorZPTruth
import Derived.Test.YtplpalmabgjibaaDoorZPCounted
set_option linter.unusedVariables false
set_option linter.unusedSimpArgs false
namespace Go.Proofs.YtplpalmabgjibaaDoor
open Go Go.Fx Go.Tally
theorem own_eq {b : TallyBook} (h : b.Counts.length * 56 ≤ 140737488355328) : B_OwnTally b = some b := by
  unfold B_OwnTally B_OwnCounts
  rw [need_of (by unfold fitsL; simpa using h)]; rfl
theorem kept_eq (b : TallyBook) (hl : b.Counts.length ≤ 9223372036854775806) : B_KeptTally b b = some true := by
  have loop : loopF (B_KeptCounts_l1 b.Counts b.Counts) big (true, 0) = some true := by
    refine loopF_spec (fun s : Bool × Int => s.1 = true ∧ 0 ≤ s.2 ∧ s.2 ≤ b.Counts.length) (fun s => b.Counts.length - s.2.toNat) (fun _ => true) ?_ big (true, 0) ⟨rfl, by simp, by simp⟩ (by unfold big; simp; omega)
    rintro rec ⟨_, i⟩ ⟨rfl, h0, h1⟩ ih
    unfold B_KeptCounts_l1
    simp only at h0 h1 ih ⊢
    rw [cond_true]
    by_cases hi : i < b.Counts.length
    · rw [decide_eq_true hi, cond_true]
      obtain ⟨x, hx, _⟩ := getI_lt h0 hi
      rw [hx, Option.bind_some, Option.bind_some, wrI (x := i + 1) (by omega) (by omega)]
      simp only [beq_self_eq_true, Bool.and_self]
      exact ih _ ⟨rfl, by simp only; omega, by simp only; omega⟩ (by simp only; omega)
    · rw [decide_eq_false hi, cond_false]
  unfold B_KeptTally B_KeptCounts
  simp only [beq_self_eq_true, cond_true, loop, Option.bind_some]
theorem check_same (b : TallyBook) (hl : b.Counts.length ≤ 9223372036854775807) : ref_Check b = tally_Check b := by rw [rcheck_eq b hl, check_eq b hl]
theorem rcheck_ok {b : TallyBook} (h : Val b) : ref_Check b = some 0 := by rw [rcheck_eq b (by have := h.l8; omega), val_iff.2 h]; rfl
theorem check_bad {b : TallyBook} (hl : b.Counts.length ≤ 9223372036854775807) (h : valB b = false) : tally_Check b = some 50 := by rw [check_eq b hl, h]; rfl
theorem rcheck_bad {b : TallyBook} (hl : b.Counts.length ≤ 9223372036854775807) (h : valB b = false) : ref_Check b = some 50 := by rw [rcheck_eq b hl, h]; rfl
theorem trips_nat {b : TallyBook} (V : Bk b) : ∃ n : Nat, b.Trips = n ∧ 1 ≤ n ∧ n ≤ 8 := ⟨b.Trips.toNat, by have := V.t1; omega, by have := V.t1; omega, by have := V.t8; omega⟩
theorem right_same (b : TallyBook) (hl : b.Counts.length ≤ 9223372036854775807) : ∃ r, tally_Right b = some r ∧ ref_Right b = some r := by
  cases hv : valB b
  · refine ⟨(false, 50), ?_, ?_⟩
    · unfold tally_Right; rw [check_bad hl hv]; rfl
    · unfold ref_Right; rw [rcheck_bad hl hv]; rfl
  have V := val_iff.1 hv
  obtain ⟨r, h1, h2⟩ := right_eq V
  obtain ⟨n, hn, _⟩ := trips_nat V.bk
  obtain ⟨M, r', h3, T⟩ := most_tab V.bk hn
  have e : r' = r := by rw [Bool.eq_iff_iff, h2, T.can]
  subst e
  refine ⟨_, h1, ?_⟩
  unfold ref_Right
  rw [rcheck_ok V, Option.bind_some]
  simp only [bne_self_eq_false, cond_false]
  rw [h3]; rfl
/-- what is asked of a book: the table, or why not -/
theorem rasked_eq {b : TallyBook} (V : Val b) {n : Nat} (hn : b.Trips = n) : ∃ M e, ref_asked b true = some (M, e) ∧ ((e = 0 ∧ CanBe b ∧ Tab b n M true) ∨ (e = 52 ∧ M = [] ∧ ¬ CanBe b)) := by
  obtain ⟨M, r, h3, T⟩ := most_tab V.bk hn
  unfold ref_asked
  rw [rcheck_ok V, Option.bind_some]
  simp only [bne_self_eq_false, cond_false, Bool.not_true]
  rw [h3, Option.bind_some]
  simp only
  cases r
  · exact ⟨[], 52, rfl, .inr ⟨rfl, rfl, fun h => by have := T.can.2 h; cases this⟩⟩
  · exact ⟨M, 0, rfl, .inl ⟨rfl, T.can.1 rfl, T⟩⟩
theorem rasked_no {b : TallyBook} (V : Val b) : ref_asked b false = some ([], 51) := by
  unfold ref_asked
  rw [rcheck_ok V, Option.bind_some]; rfl
theorem rasked_bad {b : TallyBook} (hl : b.Counts.length ≤ 9223372036854775807) (h : valB b = false) (a : Bool) : ref_asked b a = some ([], 50) := by
  unfold ref_asked
  rw [rcheck_bad hl h]; rfl
theorem asked_bad {b : TallyBook} (hl : b.Counts.length ≤ 9223372036854775807) (h : valB b = false) (a : Bool) : ∃ x, tally_asked b a = some (x, 50) := by
  unfold tally_asked
  rw [check_bad hl h]; exact ⟨_, rfl⟩
theorem Tab.cell {b : TallyBook} {n : Nat} {M : Mt} {r : Bool} (T : Tab b n M r) {i k : Int} (h0 : 0 ≤ i) (h1 : i ≤ n) (k0 : 0 ≤ k) (k1 : k ≤ n) : ∃ row, getI M i = some row ∧ getI row k = some (mg M i.toNat k.toNat) := by
  have e1 : i = (i.toNat : Int) := by omega
  have e2 : k = (k.toNat : Int) := by omega
  refine ⟨M.getD i.toNat [], ?_, ?_⟩
  · have := (T.sq.row (i := i.toNat) (by omega)).1
    rwa [← e1] at this
  · have := T.sq.cell (i := i.toNat) (k := k.toNat) (by omega) (by omega)
    rwa [← e2] at this
/-- both ends of a span over all truths are small -/
theorem Spn.bnds {b : TallyBook} (V : Bk b) {a c : Nat} {lo hi : Int} (S : Spn (Fit b no) a c lo hi) (ha : (a : Int) ≤ b.Trips) (hc : (c : Int) ≤ b.Trips) : -480 ≤ lo ∧ lo ≤ 480 ∧ -480 ≤ hi ∧ hi ≤ 480 := by
  have t8 := V.t8
  have key : ∀ q, Fit b no q → -480 ≤ q c - q a ∧ q c - q a ≤ 480 := fun q hq => by
    rcases Nat.le_total a c with h | h
    · have h1 := fit_bnd V hq h hc
      have h2 := room_mul V (n := (c : Int) - a) (by omega) (by omega)
      omega
    · have h1 := fit_bnd V hq h ha
      have h2 := room_mul V (n := (a : Int) - c) (by omega) (by omega)
      omega
  obtain ⟨p, hp, e1⟩ := S.loE
  obtain ⟨q, hq, e2⟩ := S.hiE
  have := key p hp; have := key q hq
  omega
theorem Tab.bnd {b : TallyBook} (V : Bk b) {n : Nat} (hn : b.Trips = n) {M : Mt} (T : Tab b n M true) {a c : Nat} (ha : a ≤ n) (hc : c ≤ n) : -480 ≤ mg M a c ∧ mg M a c ≤ 480 := by
  have := (T.spn rfl a c ha hc).bnds V (by omega) (by omega)
  omega
theorem isTrip_some (b : TallyBook) (x : Int) : ∃ v, ref_isTrip b x = some v := ⟨_, by unfold ref_isTrip; rw [inside_eq]; rfl⟩
theorem many_same (b : TallyBook) (hl : b.Counts.length ≤ 9223372036854775807) (f t : Int) : ∃ r, tally_Many b f t = some r ∧ ref_Many b f t = some r := by
  cases hv : valB b
  · refine ⟨(⟨0, 0⟩, 50), ?_, ?_⟩
    · obtain ⟨x, hx⟩ := asked_bad hl hv (tripsB b.Trips f t)
      unfold tally_Many
      rw [isTrips_eq, Option.bind_some, hx]; rfl
    · obtain ⟨v, h1⟩ := isTrip_some b f
      obtain ⟨v', h2⟩ := isTrip_some b t
      unfold ref_Many ref_Many_j1
      simp only [h1, h2, rasked_bad hl hv, Option.bind_some]
      cases v <;> cases v' <;> rfl
  have V := val_iff.1 hv
  obtain ⟨n, hn, n1, n8⟩ := trips_nat V.bk
  have hb : -9223372036854775807 ≤ b.Trips ∧ b.Trips ≤ 9223372036854775807 := by omega
  cases ht : tripsB b.Trips f t
  · refine ⟨(⟨0, 0⟩, 51), ?_, ?_⟩
    · obtain ⟨x, hx⟩ := asked_no V
      unfold tally_Many
      rw [isTrips_eq, Option.bind_some, ht, hx]; rfl
    · have hno : ¬ (0 ≤ f ∧ f ≤ t ∧ t < b.Trips) := fun h => by rw [trips_iff.2 h] at ht; cases ht
      unfold ref_Many ref_Many_j1
      simp only [rtrip_eq b hb, Option.bind_some]
      cases h1 : inB f 0 (b.Trips - 1)
      · rw [cond_false, rasked_no V]; rfl
      · rw [cond_true]
        cases h2 : inB t 0 (b.Trips - 1)
        · rw [cond_false, rasked_no V]; rfl
        · have a1 := inB_iff.1 h1; have a2 := inB_iff.1 h2
          rw [cond_true, decide_eq_false (show ¬ f ≤ t by omega), rasked_no V]; rfl
  have h := trips_iff.1 ht
  obtain ⟨s, e, h1, hc⟩ := many_law V h
  refine ⟨(s, e), h1, ?_⟩
  unfold ref_Many ref_Many_j1
  simp only [rtrip_eq b hb, Option.bind_some]
  rw [inB_iff.2 (show 0 ≤ f ∧ f ≤ b.Trips - 1 by omega), cond_true, inB_iff.2 (show 0 ≤ t ∧ t ≤ b.Trips - 1 by omega), cond_true, decide_eq_true h.2.1]
  obtain ⟨M, e', h2, hc'⟩ := rasked_eq V hn
  rw [h2, Option.bind_some]
  rcases hc' with ⟨rfl, C, T⟩ | ⟨rfl, rfl, C⟩
  · rcases hc with ⟨rfl, _, S⟩ | ⟨_, _, C'⟩
    case inr => exact absurd C C'
    have S' := T.spn rfl f.toNat (t + 1).toNat (by omega) (by omega)
    obtain ⟨z1, z2⟩ := S.uniq S'
    obtain ⟨r1, g1, g2⟩ := T.cell (i := t + 1) (k := f) (by omega) (by omega) (by omega) (by omega)
    obtain ⟨r2, g3, g4⟩ := T.cell (i := f) (k := t + 1) (by omega) (by omega) (by omega) (by omega)
    have b1 := T.bnd V.bk hn (a := (t + 1).toNat) (c := f.toNat) (by omega) (by omega)
    simp only [bne_self_eq_false, cond_false]
    rw [wrI (x := t + 1) (by omega) (by omega), g1, Option.bind_some, g2, Option.bind_some, g3, Option.bind_some, g4, Option.bind_some, wrI (x := -mg M (t + 1).toNat f.toNat) (by omega) (by omega)]
    unfold B_Range
    rw [Option.bind_some, ← z1, ← z2]
  · rcases hc with ⟨_, C', _⟩ | ⟨rfl, rfl, _⟩
    · exact absurd C' C
    rfl
theorem pays_same (b : TallyBook) (hl : b.Counts.length ≤ 9223372036854775807) (rate : Int) : ∃ r, tally_Pays b rate = some r ∧ ref_Pays b rate = some r := by
  cases hv : valB b
  · refine ⟨(⟨0, 0⟩, 50), ?_, ?_⟩
    · obtain ⟨x, hx⟩ := asked_bad hl hv (inB rate 0 99)
      unfold tally_Pays
      rw [within_eq, Option.bind_some, hx]; rfl
    · unfold ref_Pays
      rw [inside_eq, Option.bind_some, rasked_bad hl hv]; rfl
  have V := val_iff.1 hv
  obtain ⟨n, hn, n1, n8⟩ := trips_nat V.bk
  cases ht : inB rate 0 99
  · refine ⟨(⟨0, 0⟩, 51), ?_, ?_⟩
    · obtain ⟨x, hx⟩ := asked_no V
      unfold tally_Pays
      rw [within_eq, Option.bind_some, ht, hx]; rfl
    · unfold ref_Pays
      rw [inside_eq, Option.bind_some, ht, rasked_no V]; rfl
  have h := inB_iff.1 ht
  obtain ⟨s, e, h1, hc⟩ := pays_law V h
  refine ⟨(s, e), h1, ?_⟩
  unfold ref_Pays
  rw [inside_eq, Option.bind_some, ht]
  obtain ⟨M, e', h2, hc'⟩ := rasked_eq V hn
  rw [h2, Option.bind_some]
  rcases hc' with ⟨rfl, C, T⟩ | ⟨rfl, rfl, C⟩
  · rcases hc with ⟨rfl, _, lo, hi, rfl, S⟩ | ⟨_, _, C'⟩
    case inr => exact absurd C C'
    have S' := T.spn rfl 0 b.Trips.toNat (by omega) (by omega)
    obtain ⟨z1, z2⟩ := S.uniq S'
    obtain ⟨r1, g1, g2⟩ := T.cell (i := b.Trips) (k := 0) (by omega) (by omega) (by omega) (by omega)
    obtain ⟨r2, g3, g4⟩ := T.cell (i := 0) (k := b.Trips) (by omega) (by omega) (by omega) (by omega)
    have b1 := T.bnd V.bk hn (a := b.Trips.toNat) (c := 0) (by omega) (by omega)
    have b2 := T.bnd V.bk hn (a := 0) (c := b.Trips.toNat) (by omega) (by omega)
    have hb := S.bnd V.bk (Nat.zero_le _) (by omega)
    have m1 : 0 ≤ lo * rate ∧ lo * rate ≤ 480 * 99 := ⟨Int.mul_nonneg (by omega) (by omega), Int.mul_le_mul (by omega) (by omega) (by omega) (by omega)⟩
    have m2 : 0 ≤ hi * rate ∧ hi * rate ≤ 480 * 99 := ⟨Int.mul_nonneg (by omega) (by omega), Int.mul_le_mul (by omega) (by omega) (by omega) (by omega)⟩
    simp only [bne_self_eq_false, cond_false]
    simp only [Int.toNat_zero] at g2 g4
    rw [g1, Option.bind_some, g2, Option.bind_some, g3, Option.bind_some, g4, Option.bind_some, wrI (x := -mg M b.Trips.toNat 0) (by omega) (by omega)]
    unfold B_Range B_Scaled B_Range
    simp only [Option.bind_some]
    rw [← z1, ← z2, wrI (x := lo * rate) (by omega) (by omega), wrI (x := hi * rate) (by omega) (by omega)]
  · rcases hc with ⟨_, C', _⟩ | ⟨rfl, rfl, _⟩
    · exact absurd C' C
    rfl
end Go.Proofs.YtplpalmabgjibaaDoor

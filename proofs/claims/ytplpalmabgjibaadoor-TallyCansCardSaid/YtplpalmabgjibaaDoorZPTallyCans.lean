/- The plain law of Can and Fits: the program answers as the specification. -/
import Derived.Test.YtplpalmabgjibaaDoorZWTallyCans
import Derived.Test.YtplpalmabgjibaaDoorZPSame
set_option linter.unusedVariables false
set_option linter.unusedSimpArgs false
namespace Go.Proofs.YtplpalmabgjibaaDoor
open Go Go.Fx Go.Tally
theorem ints_kept (l : List Int) (hl : l.length ≤ 9223372036854775806) : B_Alike l l = some true := by
  unfold B_Alike
  rw [bne_self_eq_false, cond_false]
  refine loopF_spec (fun i : Int => 0 ≤ i ∧ i ≤ l.length) (fun i => l.length - i.toNat) (fun _ => true) ?_ big 0 ⟨by omega, by omega⟩ (by unfold big; simp; omega)
  rintro rec i ⟨h0, h1⟩ ih
  unfold B_Alike_l1
  by_cases hi : i < l.length
  · rw [decide_eq_true hi, cond_true]
    obtain ⟨x, hx, _⟩ := getI_lt h0 hi
    rw [hx, Option.bind_some, Option.bind_some, bne_self_eq_false, cond_false, wrI (x := i + 1) (by omega) (by omega)]
    exact ih _ ⟨by omega, by omega⟩ (by omega)
  · rw [decide_eq_false hi, cond_false]
theorem ints_own {l : List Int} (h : l.length * 8 ≤ 140737488355328) : B_OwnInts l = some l := by
  unfold B_OwnInts
  rw [need_of (by unfold fitsL; simpa using h)]
/-- both look at the numbers in the same way -/
theorem can_same (b : TallyBook) (hl : b.Counts.length ≤ 9223372036854775807) (u : List Int) : ∃ r, tally_Can b u = some r ∧ ref_Can b u = some r := by
  cases hv : valB b
  · refine ⟨(false, 50), ?_, ?_⟩
    · unfold tally_Can; rw [check_bad hl hv]; rfl
    · unfold ref_Can; rw [rcheck_bad hl hv]; rfl
  have V := val_iff.1 hv
  have t8 := V.t8; have t1 := V.t1; have l8 := V.l8
  by_cases hlen : (u.length : Int) = b.Trips
  case neg =>
    refine ⟨(false, 51), ?_, ?_⟩
    · unfold tally_Can
      rw [check_ok V, Option.bind_some]
      simp only [bne_self_eq_false, cond_false]
      rw [show ((u.length : Int) != b.Trips) = true by simpa using hlen]; rfl
    · unfold ref_Can
      rw [rcheck_ok V, Option.bind_some]
      simp only [bne_self_eq_false, cond_false]
      rw [show ((u.length : Int) != b.Trips) = true by simpa using hlen]; rfl
  by_cases hin : ∀ x ∈ u, 0 ≤ x ∧ x ≤ b.Room
  case neg =>
    -- a number that is none of a trip
    refine ⟨(false, 0), ?_, ?_⟩
    · unfold tally_Can
      rw [check_ok V, Option.bind_some]
      simp only [bne_self_eq_false, cond_false]
      rw [show ((u.length : Int) != b.Trips) = false by simp [hlen], cond_false]
      refine loopF_spec (body := tally_Can_l3 u b) (fun z : Int => ∃ k : Nat, z = k ∧ k ≤ u.length ∧ ∀ j x, j < k → u[j]? = some x → 0 ≤ x ∧ x ≤ b.Room) (fun z => u.length - z.toNat) (fun _ => (false, 0)) ?_ big 0 ⟨0, rfl, Nat.zero_le _, fun j x hj => absurd hj (Nat.not_lt_zero j)⟩ (by unfold big; simp; omega)
      rintro rec z ⟨k, rfl, hk, hq⟩ ih
      unfold tally_Can_l3
      by_cases hlt : k < u.length
      · rw [decide_eq_true (by omega), cond_true, getI_nat, List.getElem?_eq_getElem hlt, Option.bind_some]
        have hx := List.getElem?_eq_getElem hlt
        generalize u[k] = x at hx
        rw [within_eq, Option.bind_some]
        cases hi : inB x 0 b.Room
        · rfl
        · rw [Bool.not_true, cond_false, wrI (by omega) (by omega)]
          refine ih _ ⟨k + 1, by simp, by omega, fun j y hj hy => ?_⟩ (by (try simp only); omega)
          by_cases e : j = k
          · subst e; rw [hx] at hy; cases hy; exact inB_iff.1 hi
          · exact hq j y (by omega) hy
      · exfalso
        refine hin fun x hx => ?_
        obtain ⟨j, hj, rfl⟩ := List.getElem_of_mem hx
        exact hq j _ (by omega) (List.getElem?_eq_getElem hj)
    · unfold ref_Can
      rw [rcheck_ok V, Option.bind_some]
      simp only [bne_self_eq_false, cond_false]
      rw [show ((u.length : Int) != b.Trips) = false by simp [hlen], cond_false]
      refine loopF_spec (body := ref_Can_l3 u b) (fun s : Bool × Int => ∃ k : Nat, s.2 = k ∧ k ≤ u.length ∧ (s.1 = true → ∀ j x, j < k → u[j]? = some x → 0 ≤ x ∧ x ≤ b.Room)) (fun s => u.length - s.2.toNat) (fun _ => (false, 0)) ?_ big (true, 0) ⟨0, rfl, Nat.zero_le _, fun _ j x hj => absurd hj (Nat.not_lt_zero j)⟩ (by unfold big; simp; omega)
      rintro rec ⟨ok, z⟩ ⟨k, rfl, hk, hq⟩ ih
      simp only at hq
      unfold ref_Can_l3
      simp only
      by_cases hlt : k < u.length
      · rw [decide_eq_true (by omega), cond_true, wrI (by omega) (by omega)]
        cases ok
        · rw [cond_false]
          exact ih _ ⟨k + 1, by simp, by omega, fun h => by cases h⟩ (by (try simp only); omega)
        · rw [cond_true, getI_nat, List.getElem?_eq_getElem hlt, Option.bind_some]
          have hx := List.getElem?_eq_getElem hlt
          generalize u[k] = x at hx
          rw [inside_eq, Option.bind_some]
          refine ih _ ⟨k + 1, by simp, by omega, fun h j y hj hy => ?_⟩ (by (try simp only); omega)
          by_cases e : j = k
          · subst e; rw [hx] at hy; cases hy; exact inB_iff.1 h
          · exact hq rfl j y (by omega) hy
      · rw [decide_eq_false (by omega), cond_false]
        cases ok
        · have hb : big = 18446744073709551615 + 1 := by decide
          rw [hb, loopF_succ]; rfl
        · exfalso
          refine hin fun x hx => ?_
          obtain ⟨j, hj, rfl⟩ := List.getElem_of_mem hx
          exact hq rfl j _ (by omega) (List.getElem?_eq_getElem hj)
  have hu : Tru b u := ⟨hlen, hin⟩
  obtain ⟨r, h1, h2⟩ := can_law V hu
  refine ⟨(r, 0), h1, ?_⟩
  unfold ref_Can
  rw [rcheck_ok V, Option.bind_some]
  simp only [bne_self_eq_false, cond_false]
  rw [show ((u.length : Int) != b.Trips) = false by simp [hlen], cond_false]
  have second : loopF (ref_Can_l2 b u) big (true, 0) = some (r, 0) := by
    obtain ⟨p, hp, hp0, hpi⟩ : ∃ p, loopF (ref_Can_l2 b u) big (true, 0) = some p ∧ p.2 = 0 ∧ (p.1 = true ↔ Fit b no (pre u)) := by
      refine loopF_inv (body := ref_Can_l2 b u) (fun s : Bool × Int => ∃ k : Nat, s.2 = k ∧ k ≤ b.Counts.length ∧ (s.1 = true ↔ ∀ j x, j < k → b.Counts[j]? = some x → CntQ x (pre u))) (fun s => b.Counts.length - s.2.toNat) (fun p => p.2 = 0 ∧ (p.1 = true ↔ Fit b no (pre u))) ?_ big (true, 0) ⟨0, rfl, Nat.zero_le _, by simp⟩ (by unfold big; simp; omega)
      rintro rec ⟨ok, z⟩ ⟨k, rfl, hk, hq⟩ ih
      simp only at hq
      unfold ref_Can_l2
      simp only
      cases ok
      · rw [cond_false]
        refine ⟨_, rfl, rfl, ?_⟩
        simp only [Bool.false_eq_true, false_iff]
        intro h
        have := hq.2 fun j x _ hx => h.2 j x hx rfl
        cases this
      · rw [cond_true]
        by_cases hlt : k < b.Counts.length
        · rw [decide_eq_true (by omega), cond_true, getI_nat, List.getElem?_eq_getElem hlt, Option.bind_some]
          have hx := List.getElem?_eq_getElem hlt
          generalize b.Counts[k] = x at hx
          have C := cnt_iff.1 (V.cs x (List.mem_of_getElem? hx))
          have f0 := C.f0; have ft := C.ft; have tT := C.tT; have r60 := V.r60
          rw [span_eq C, Option.bind_some, wrI (x := x.To + 1) (by omega) (by omega), cutI_eq (by omega) (by omega) (by omega), Option.bind_some, sumOf_eq (by simp; omega) (fun n hn => by have := hu.bnd n (mem_cut hn); omega), Option.bind_some]
          unfold B_Contains
          rw [inside_eq, Option.bind_some, Option.bind_some, wrI (by omega) (by omega), pre_cut (by omega)]
          refine ih _ ⟨k + 1, by simp, by omega, ?_⟩ (by (try simp only); omega)
          simp only
          rw [inB_iff]
          constructor
          · intro h j y hj hy
            by_cases e : j = k
            · subst e; rw [hx] at hy; cases hy; exact h
            · exact hq.1 rfl j y (by omega) hy
          · intro h; exact h k x (by omega) hx
        · rw [decide_eq_false (by omega), cond_false]
          refine ⟨_, rfl, rfl, ?_⟩
          simp only [true_iff]
          exact ⟨hu.steps, fun j x hx _ => hq.1 rfl j x (by have := (List.getElem?_eq_some_iff.1 hx).1; omega) hx⟩
    have e1 : p.1 = r := by rw [Bool.eq_iff_iff, hpi, h2]
    obtain ⟨p1, p2⟩ := p
    simp only at hp0 e1
    rw [hp, hp0, e1]
  refine loopF_spec (body := ref_Can_l3 u b) (fun s : Bool × Int => s.1 = true ∧ ∃ k : Nat, s.2 = k ∧ k ≤ u.length) (fun s => u.length - s.2.toNat) (fun _ => (r, 0)) ?_ big (true, 0) ⟨rfl, 0, rfl, Nat.zero_le _⟩ (by unfold big; simp; omega)
  rintro rec ⟨_, z⟩ ⟨rfl, k, rfl, hk⟩ ih
  unfold ref_Can_l3
  simp only
  by_cases hlt : k < u.length
  · rw [decide_eq_true (by omega), cond_true, cond_true, getI_nat, List.getElem?_eq_getElem hlt, Option.bind_some]
    have hx := List.getElem?_eq_getElem hlt
    rw [inside_eq, Option.bind_some, inB_iff.2 (hu.bnd _ (List.mem_of_getElem? hx)), wrI (by omega) (by omega)]
    exact ih _ ⟨rfl, k + 1, by simp, by omega⟩ (by (try simp only); omega)
  · rw [decide_eq_false (by omega), cond_false, second]
theorem rwith_eq {b : TallyBook} (h : b.Counts.length ≤ 1000000) (x : TallyCount) : ref_With b x = some (plus b x) := by
  unfold ref_With plus
  cases hb : b.Counts with
  | nil => rw [List.isEmpty_nil, cond_true, need_of (fits_small (by simp) (by omega))]; rfl
  | cons y l =>
    rw [List.isEmpty_cons, cond_false, need_of, need_of]
    · unfold fitsL; rw [decide_eq_true_eq]; rw [hb] at h; simp at h ⊢; omega
    · unfold fitsL; rw [decide_eq_true_eq]; rw [hb] at h; simp at h ⊢; omega
theorem rcount_some (b : TallyBook) (x : TallyCount) : ∃ v, ref_isCount b x = some v := by
  unfold ref_isCount ref_isTrip
  simp only [inside_eq, Option.bind_some]
  cases inB x.Who 0 2 <;> cases inB x.From 0 (Fx.wr (b.Trips - 1)) <;> cases inB x.To 0 (Fx.wr (b.Trips - 1)) <;> cases decide (x.From ≤ x.To) <;> cases inB x.Told 0 99 <;> cases inB x.Unit 1 20 <;> cases inB x.Under 0 30 <;> cases inB x.Over 0 30 <;> cases (x.Who != 1) <;> exact ⟨_, rfl⟩
theorem fits_same (b : TallyBook) (hl : b.Counts.length ≤ 9223372036854775807) (x : TallyCount) : ∃ r, tally_Fits b x = some r ∧ ref_Fits b x = some r := by
  cases hv : valB b
  · refine ⟨(false, 50), ?_, ?_⟩
    · obtain ⟨y, hy⟩ := asked_bad hl hv (cntB b.Trips x)
      unfold tally_Fits
      rw [isCount_eq, Option.bind_some, hy]; rfl
    · obtain ⟨v, h1⟩ := rcount_some b x
      unfold ref_Fits
      rw [h1, Option.bind_some, rasked_bad hl hv]; rfl
  have V := val_iff.1 hv
  obtain ⟨n, hn, n1, n8⟩ := trips_nat V.bk
  have hb : -9223372036854775807 ≤ b.Trips ∧ b.Trips ≤ 9223372036854775807 := by omega
  cases hx : cntB b.Trips x
  · refine ⟨(false, 51), ?_, ?_⟩
    · obtain ⟨y, hy⟩ := asked_no V
      unfold tally_Fits
      rw [isCount_eq, Option.bind_some, hx, hy]; rfl
    · unfold ref_Fits
      rw [rcount_eq b hb, Option.bind_some, hx, rasked_no V]; rfl
  have C := cnt_iff.1 hx
  obtain ⟨r, e, h1, hc⟩ := fits_law V C
  refine ⟨(r, e), h1, ?_⟩
  unfold ref_Fits
  rw [rcount_eq b hb, Option.bind_some, hx]
  obtain ⟨M, e', h2, hc'⟩ := rasked_eq V hn
  rw [h2, Option.bind_some]
  rcases hc' with ⟨rfl, K, T⟩ | ⟨rfl, rfl, K⟩
  · rcases hc with ⟨rfl, _, hr⟩ | ⟨_, _, C'⟩
    case inr => exact absurd K C'
    obtain ⟨M', r', h3, T'⟩ := most_tab (V.plus C) (n := n) hn
    simp only [bne_self_eq_false, cond_false]
    rw [rwith_eq (by have := V.l8; omega), Option.bind_some, h3, Option.bind_some]
    have e : r' = r := by rw [Bool.eq_iff_iff, hr, T'.can]
    rw [e]
  · rcases hc with ⟨_, C', _⟩ | ⟨rfl, rfl, _⟩
    · exact absurd C' K
    rfl
theorem law_tallyCans_t (b : TallyBook) (h : b.Counts.length * 56 ≤ 140737488355328) (u : List Int) (hu : u.length * 8 ≤ 140737488355328) (x : TallyCount) : law_TallyCans b u x = some true := by
  have hl : b.Counts.length ≤ 9223372036854775807 := by omega
  have main : law_tallyCans b u b u x = some true := by
    obtain ⟨r1, h1, g1⟩ := can_same b hl u
    obtain ⟨r2, h2, g2⟩ := fits_same b hl x
    unfold law_tallyCans
    simp only [h1, g1, h2, g2, Option.bind_some, bne_self_eq_false, cond_false, beq_self_eq_true, cond_true]
  unfold law_TallyCans
  rw [own_eq h, Option.bind_some, ints_own hu, Option.bind_some, main, Option.bind_some, kept_eq b (by omega), ints_kept u (by omega), counted_t]
  rfl
end Go.Proofs.YtplpalmabgjibaaDoor

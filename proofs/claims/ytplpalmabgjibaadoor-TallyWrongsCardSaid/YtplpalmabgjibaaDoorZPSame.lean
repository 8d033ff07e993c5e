/- Plain facts: what the program and the specification both answer, for any book. -/
import Derived.Test.YtplpalmabgjibaaDoorZPMost2
import Derived.Test.YtplpalmabgjibaaDoorZPTruth
import Derived.Test.YtplpalmabgjibaaDoorZPCounted
set_option linter.unusedVariables false
set_option linter.unusedSimpArgs false
namespace Go.Proofs.YtplpalmabgjibaaDoor
open Go Go.Fx Go.Tally
theorem own_eq {b : TallyBook} (h : b.Counts.length * 56 ≤ 140737488355328) : B_OwnTally b = some b := by
  unfold B_OwnTally B_OwnCounts
  rw [need_of (by unfold fitsL; simpa using h)]; rfl
theorem kept_eq (b : TallyBook) (hl : b.Counts.length ≤ 9223372036854775806) : B_KeptTally b b = some true := by
  have loop : loopF (B_KeptCounts_l1 b.Counts b.Counts) big (true, 0) = some true := by
    refine loopF_spec (fun s : Bool × Int => s.1 = true ∧ 0 ≤ s.2 ∧ s.2 ≤ b.Counts.length) (fun s => b.Counts.length - s.2.toNat) (fun _ => true) ?_ big (true, 0) ⟨rfl, by simp, by simp⟩ (by unfold big; simp; omega)
    rintro rec ⟨_, i⟩ ⟨rfl, h0, h1⟩ ih
    unfold B_KeptCounts_l1
    simp only at h0 h1 ih ⊢
    rw [cond_true]
    by_cases hi : i < b.Counts.length
    · rw [decide_eq_true hi, cond_true]
      obtain ⟨x, hx, _⟩ := getI_lt h0 hi
      rw [hx, Option.bind_some, Option.bind_some, wrI (x := i + 1) (by omega) (by omega)]
      simp only [beq_self_eq_true, Bool.and_self]
      exact ih _ ⟨rfl, by simp only; omega, by simp only; omega⟩ (by simp only; omega)
    · rw [decide_eq_false hi, cond_false]
  unfold B_KeptTally B_KeptCounts
  simp only [beq_self_eq_true, cond_true, loop, Option.bind_some]
theorem rcheck_ok {b : TallyBook} (h : Val b) : ref_Check b = some 0 := by rw [rcheck_eq b (by have := h.l8; omega), val_iff.2 h]; rfl
theorem check_bad {b : TallyBook} (hl : b.Counts.length ≤ 9223372036854775807) (h : valB b = false) : tally_Check b = some 50 := by rw [check_eq b hl, h]; rfl
theorem rcheck_bad {b : TallyBook} (hl : b.Counts.length ≤ 9223372036854775807) (h : valB b = false) : ref_Check b = some 50 := by rw [rcheck_eq b hl, h]; rfl
theorem trips_nat {b : TallyBook} (V : Bk b) : ∃ n : Nat, b.Trips = n ∧ 1 ≤ n ∧ n ≤ 8 := ⟨b.Trips.toNat, by have := V.t1; omega, by have := V.t1; omega, by have := V.t8; omega⟩
/-- what is asked of a book: the table, or why not -/
theorem rasked_eq {b : TallyBook} (V : Val b) {n : Nat} (hn : b.Trips = n) : ∃ M e, ref_asked b true = some (M, e) ∧ ((e = 0 ∧ CanBe b ∧ Tab b n M true) ∨ (e = 52 ∧ M = [] ∧ ¬ CanBe b)) := by
  obtain ⟨M, r, h3, T⟩ := most_tab V.bk hn
  unfold ref_asked
  rw [rcheck_ok V, Option.bind_some]
  simp only [bne_self_eq_false, cond_false, Bool.not_true]
  rw [h3, Option.bind_some]
  simp only
  cases r
  · exact ⟨[], 52, rfl, .inr ⟨rfl, rfl, fun h => by have := T.can.2 h; cases this⟩⟩
  · exact ⟨M, 0, rfl, .inl ⟨rfl, T.can.1 rfl, T⟩⟩
theorem rasked_bad {b : TallyBook} (hl : b.Counts.length ≤ 9223372036854775807) (h : valB b = false) (a : Bool) : ref_asked b a = some ([], 50) := by
  unfold ref_asked
  rw [rcheck_bad hl h]; rfl
theorem asked_bad {b : TallyBook} (hl : b.Counts.length ≤ 9223372036854775807) (h : valB b = false) (a : Bool) : ∃ x, tally_asked b a = some (x, 50) := by
  unfold tally_asked
  rw [check_bad hl h]; exact ⟨_, rfl⟩
theorem Tab.cell {b : TallyBook} {n : Nat} {M : Mt} {r : Bool} (T : Tab b n M r) {i k : Int} (h0 : 0 ≤ i) (h1 : i ≤ n) (k0 : 0 ≤ k) (k1 : k ≤ n) : ∃ row, getI M i = some row ∧ getI row k = some (mg M i.toNat k.toNat) := by
  have e1 : i = (i.toNat : Int) := by omega
  have e2 : k = (k.toNat : Int) := by omega
  refine ⟨M.getD i.toNat [], ?_, ?_⟩
  · have := (T.sq.row (i := i.toNat) (by omega)).1
    rwa [← e1] at this
  · have := T.sq.cell (i := i.toNat) (k := k.toNat) (by omega) (by omega)
    rwa [← e2] at this
/-- both ends of a span over all truths are small -/
theorem Spn.bnds {b : TallyBook} (V : Bk b) {a c : Nat} {lo hi : Int} (S : Spn (Fit b no) a c lo hi) (ha : (a : Int) ≤ b.Trips) (hc : (c : Int) ≤ b.Trips) : -480 ≤ lo ∧ lo ≤ 480 ∧ -480 ≤ hi ∧ hi ≤ 480 := by
  have t8 := V.t8
  have key : ∀ q, Fit b no q → -480 ≤ q c - q a ∧ q c - q a ≤ 480 := fun q hq => by
    rcases Nat.le_total a c with h | h
    · have h1 := fit_bnd V hq h hc
      have h2 := room_mul V (n := (c : Int) - a) (by omega) (by omega)
      omega
    · have h1 := fit_bnd V hq h ha
      have h2 := room_mul V (n := (a : Int) - c) (by omega) (by omega)
      omega
  obtain ⟨p, hp, e1⟩ := S.loE
  obtain ⟨q, hq, e2⟩ := S.hiE
  have := key p hp; have := key q hq
  omega
theorem Tab.bnd {b : TallyBook} (V : Bk b) {n : Nat} (hn : b.Trips = n) {M : Mt} (T : Tab b n M true) {a c : Nat} (ha : a ≤ n) (hc : c ≤ n) : -480 ≤ mg M a c ∧ mg M a c ≤ 480 := by
  have := (T.spn rfl a c ha hc).bnds V (by omega) (by omega)
  omega
end Go.Proofs.YtplpalmabgjibaaDoor

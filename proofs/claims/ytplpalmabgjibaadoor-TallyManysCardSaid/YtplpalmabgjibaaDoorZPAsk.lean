/- Plain facts: what the functions of the layer answer. -/
import Derived.Test.YtplpalmabgjibaaDoorZPMany
set_option linter.unusedVariables false
set_option linter.unusedSimpArgs false
namespace Go.Proofs.YtplpalmabgjibaaDoor
open Go Go.Fx Go.Tally
def no : TallyCount → Nat → Bool := fun _ _ => false
/-- a book that can be true -/
def CanBe (b : TallyBook) : Prop := ∃ q, Fit b no q
theorem nobody_eq {b : TallyBook} (V : Bk b) : ∃ m, tally_opened b (Tally_leave.mk fun y19 y20 => tally_nobody_1 y19 y20) = some ⟨b, m⟩ ∧ Opn b no m := by
  obtain ⟨m, h1, h2, h3, h4⟩ := opened_eq V (lv := Tally_leave.mk fun y19 y20 => tally_nobody_1 y19 y20) (out := no) (fun i x _ => rfl)
  exact ⟨m, h1, V, h2, h3, h4⟩
theorem right_eq {b : TallyBook} (V : Val b) : ∃ r, tally_Right b = some (r, 0) ∧ (r = true ↔ CanBe b) := by
  obtain ⟨m, hm, O⟩ := nobody_eq V.bk
  obtain ⟨r, hr, hi⟩ := can_eq O b.Counts
  refine ⟨r, ?_, hi⟩
  unfold tally_Right
  rw [check_ok V, Option.bind_some]
  simp only [bne_self_eq_false, cond_false]
  unfold tally_nobody
  rw [Option.bind_some, hm, Option.bind_some]
  simp only
  rw [hr]; rfl
theorem asked_eq {b : TallyBook} (V : Val b) : ∃ m e, tally_asked b true = some (⟨b, m⟩, e) ∧ Opn b no m ∧ ((e = 0 ∧ CanBe b) ∨ (e = 52 ∧ ¬ CanBe b)) := by
  obtain ⟨m, hm, O⟩ := nobody_eq V.bk
  obtain ⟨r, hr, hi⟩ := can_eq O b.Counts
  refine ⟨m, if r = true then 0 else 52, ?_, O, ?_⟩
  · unfold tally_asked
    rw [check_ok V, Option.bind_some]
    simp only [bne_self_eq_false, cond_false, Bool.not_true]
    unfold tally_nobody
    rw [Option.bind_some, hm, Option.bind_some]
    simp only
    rw [hr, Option.bind_some]
    cases r <;> rfl
  · cases r
    · right; exact ⟨rfl, fun h => by simpa using hi.2 h⟩
    · left; exact ⟨rfl, hi.1 rfl⟩
theorem asked_no {b : TallyBook} (V : Val b) : ∃ x, tally_asked b false = some (x, 51) := by
  unfold tally_asked
  rw [check_ok V, Option.bind_some]
  exact ⟨_, rfl⟩
theorem trips_iff {T f t : Int} : tripsB T f t = true ↔ 0 ≤ f ∧ f ≤ t ∧ t < T := by
  unfold tripsB
  rw [Bool.and_eq_true, inB_iff, decide_eq_true_eq]
  omega
theorem many_law {b : TallyBook} (V : Val b) {f t : Int} (h : 0 ≤ f ∧ f ≤ t ∧ t < b.Trips) :
    ∃ s e, tally_Many b f t = some (s, e) ∧ ((e = 0 ∧ CanBe b ∧ Spn (Fit b no) f.toNat (t + 1).toNat s.Low s.High) ∨ (e = 52 ∧ s = ⟨0, 0⟩ ∧ ¬ CanBe b)) := by
  have t8 := V.t8
  obtain ⟨m, e, ha, O, he⟩ := asked_eq V
  have hw : Fx.wr (t + 1) = t + 1 := wrI (by omega) (by omega)
  unfold tally_Many
  rw [isTrips_eq, Option.bind_some, trips_iff.2 h, ha, Option.bind_some, hw]
  rcases he with ⟨rfl, hc⟩ | ⟨rfl, hc⟩
  · obtain ⟨lo, hi, hm, S⟩ := many_eq O hc (a := f) (c := t + 1) (by omega) (by omega) (by omega) (by omega) b.Counts
    refine ⟨⟨lo, hi⟩, 0, ?_, .inl ⟨rfl, hc, S⟩⟩
    simp only [bne_self_eq_false, cond_false]
    rw [hm]; rfl
  · exact ⟨⟨0, 0⟩, 52, rfl, .inr ⟨rfl, rfl, hc⟩⟩
theorem steps_bnd {t r : Int} (t8 : t ≤ 8) (r0 : 0 ≤ r) (r60 : r ≤ 60) {q : Nat → Int} (h : Steps t r q) : ∀ (d a : Nat), ((a + d : Nat) : Int) ≤ t → 0 ≤ q (a + d) - q a ∧ q (a + d) - q a ≤ r * d := by
  intro d
  induction d with
  | zero => intro a _; simp
  | succ d ih =>
    intro a hk
    have h1 := ih a (by omega)
    have h2 := h (a + d) (by omega)
    rw [show a + (d + 1) = a + d + 1 by omega]
    have : r * ((d + 1 : Nat) : Int) = r * (d : Int) + r := by rw [Int.natCast_add, Int.mul_add]; simp
    omega
theorem fit_bnd {b : TallyBook} (V : Bk b) {out : TallyCount → Nat → Bool} {q : Nat → Int} (h : Fit b out q) {a c : Nat} (hac : a ≤ c) (hc : (c : Int) ≤ b.Trips) : 0 ≤ q c - q a ∧ q c - q a ≤ b.Room * ((c : Int) - a) := by
  have := steps_bnd V.t8 V.r0 V.r60 h.1 (c - a) a (by omega)
  rw [show a + (c - a) = c by omega] at this
  rw [show ((c : Int) - a) = ((c - a : Nat) : Int) by omega]
  exact this
theorem room_mul {b : TallyBook} (V : Bk b) {n : Int} (h0 : 0 ≤ n) (h8 : n ≤ 8) : 0 ≤ b.Room * n ∧ b.Room * n ≤ 480 := by
  have := V.r0; have := V.r60
  constructor
  · exact Int.mul_nonneg (by omega) h0
  · have : b.Room * n ≤ 60 * 8 := Int.mul_le_mul (by omega) h8 h0 (by omega)
    omega
theorem Spn.bnd {b : TallyBook} (V : Bk b) {out : TallyCount → Nat → Bool} {a c : Nat} {lo hi : Int} (S : Spn (Fit b out) a c lo hi) (hac : a ≤ c) (hc : (c : Int) ≤ b.Trips) : 0 ≤ lo ∧ lo ≤ hi ∧ hi ≤ b.Room * ((c : Int) - a) ∧ hi ≤ 480 := by
  obtain ⟨q, hq, h1⟩ := S.loE
  obtain ⟨q', hq', h2⟩ := S.hiE
  have a1 := fit_bnd V hq hac hc
  have a2 := fit_bnd V hq' hac hc
  have a3 := S.all q hq
  have a4 := V.t8
  have a5 := room_mul V (n := (c : Int) - a) (by omega) (by omega)
  omega
theorem pays_law {b : TallyBook} (V : Val b) {r : Int} (h : 0 ≤ r ∧ r ≤ 99) :
    ∃ s e, tally_Pays b r = some (s, e) ∧ ((e = 0 ∧ CanBe b ∧ ∃ lo hi, s = ⟨lo * r, hi * r⟩ ∧ Spn (Fit b no) 0 b.Trips.toNat lo hi) ∨ (e = 52 ∧ s = ⟨0, 0⟩ ∧ ¬ CanBe b)) := by
  have t8 := V.t8; have t1 := V.t1
  obtain ⟨m, e, ha, O, he⟩ := asked_eq V
  unfold tally_Pays
  rw [within_eq, Option.bind_some, inB_iff.2 h, ha, Option.bind_some]
  rcases he with ⟨rfl, hc⟩ | ⟨rfl, hc⟩
  · obtain ⟨lo, hi, hm, S⟩ := many_eq O hc (a := 0) (c := b.Trips) (by omega) (by omega) (by omega) (by omega) b.Counts
    have hb := S.bnd V.bk (Nat.zero_le _) (by omega)
    have m1 : 0 ≤ lo * r ∧ lo * r ≤ 480 * 99 := ⟨Int.mul_nonneg (by omega) (by omega), Int.mul_le_mul (by omega) (by omega) (by omega) (by omega)⟩
    have m2 : 0 ≤ hi * r ∧ hi * r ≤ 480 * 99 := ⟨Int.mul_nonneg (by omega) (by omega), Int.mul_le_mul (by omega) (by omega) (by omega) (by omega)⟩
    refine ⟨⟨lo * r, hi * r⟩, 0, ?_, .inl ⟨rfl, hc, lo, hi, rfl, S⟩⟩
    simp only [bne_self_eq_false, cond_false]
    rw [hm, Option.bind_some]
    simp only
    rw [wrI (x := lo * r) (by omega) (by omega), wrI (x := hi * r) (by omega) (by omega)]
  · exact ⟨⟨0, 0⟩, 52, rfl, .inr ⟨rfl, rfl, hc⟩⟩
def plus (b : TallyBook) (x : TallyCount) : TallyBook := ⟨b.Trips, b.Room, b.Counts ++ [x]⟩
theorem Val.plus {b : TallyBook} (V : Val b) {x : TallyCount} (hx : Cnt b.Trips x) : Bk (plus b x) := by
  refine ⟨V.t1, V.t8, V.r0, V.r60, by have := V.l8; simp [YtplpalmabgjibaaDoor.plus]; omega, fun y hy => ?_⟩
  rcases List.mem_append.1 hy with hy | hy
  · exact V.cs y hy
  · rw [List.mem_singleton.1 hy]; exact cnt_iff.2 hx
end Go.Proofs.YtplpalmabgjibaaDoor

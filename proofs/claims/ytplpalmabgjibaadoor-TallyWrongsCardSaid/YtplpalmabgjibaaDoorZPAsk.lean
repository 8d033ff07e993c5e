/- Plain facts: what the functions of the layer answer. -/
import Derived.Test.YtplpalmabgjibaaDoorZPMany
set_option linter.unusedVariables false
set_option linter.unusedSimpArgs false
namespace Go.Proofs.YtplpalmabgjibaaDoor
open Go Go.Fx Go.Tally
def no : TallyCount → Nat → Bool := fun _ _ => false
/-- a book that can be true -/
def CanBe (b : TallyBook) : Prop := ∃ q, Fit b no q
theorem nobody_eq {b : TallyBook} (V : Bk b) : ∃ m, tally_opened b (Tally_leave.mk fun y19 y20 => tally_nobody_1 y19 y20) = some ⟨b, m⟩ ∧ Opn b no m := by
  obtain ⟨m, h1, h2, h3, h4⟩ := opened_eq V (lv := Tally_leave.mk fun y19 y20 => tally_nobody_1 y19 y20) (out := no) (fun i x _ => rfl)
  exact ⟨m, h1, V, h2, h3, h4⟩
theorem asked_eq {b : TallyBook} (V : Val b) : ∃ m e, tally_asked b true = some (⟨b, m⟩, e) ∧ Opn b no m ∧ ((e = 0 ∧ CanBe b) ∨ (e = 52 ∧ ¬ CanBe b)) := by
  obtain ⟨m, hm, O⟩ := nobody_eq V.bk
  obtain ⟨r, hr, hi⟩ := can_eq O b.Counts
  refine ⟨m, if r = true then 0 else 52, ?_, O, ?_⟩
  · unfold tally_asked
    rw [check_ok V, Option.bind_some]
    simp only [bne_self_eq_false, cond_false, Bool.not_true]
    unfold tally_nobody
    rw [Option.bind_some, hm, Option.bind_some]
    simp only
    rw [hr, Option.bind_some]
    cases r <;> rfl
  · cases r
    · right; exact ⟨rfl, fun h => by simpa using hi.2 h⟩
    · left; exact ⟨rfl, hi.1 rfl⟩
theorem steps_bnd {t r : Int} (t8 : t ≤ 8) (r0 : 0 ≤ r) (r60 : r ≤ 60) {q : Nat → Int} (h : Steps t r q) : ∀ (d a : Nat), ((a + d : Nat) : Int) ≤ t → 0 ≤ q (a + d) - q a ∧ q (a + d) - q a ≤ r * d := by
  intro d
  induction d with
  | zero => intro a _; simp
  | succ d ih =>
    intro a hk
    have h1 := ih a (by omega)
    have h2 := h (a + d) (by omega)
    rw [show a + (d + 1) = a + d + 1 by omega]
    have : r * ((d + 1 : Nat) : Int) = r * (d : Int) + r := by rw [Int.natCast_add, Int.mul_add]; simp
    omega
theorem fit_bnd {b : TallyBook} (V : Bk b) {out : TallyCount → Nat → Bool} {q : Nat → Int} (h : Fit b out q) {a c : Nat} (hac : a ≤ c) (hc : (c : Int) ≤ b.Trips) : 0 ≤ q c - q a ∧ q c - q a ≤ b.Room * ((c : Int) - a) := by
  have := steps_bnd V.t8 V.r0 V.r60 h.1 (c - a) a (by omega)
  rw [show a + (c - a) = c by omega] at this
  rw [show ((c : Int) - a) = ((c - a : Nat) : Int) by omega]
  exact this
theorem room_mul {b : TallyBook} (V : Bk b) {n : Int} (h0 : 0 ≤ n) (h8 : n ≤ 8) : 0 ≤ b.Room * n ∧ b.Room * n ≤ 480 := by
  have := V.r0; have := V.r60
  constructor
  · exact Int.mul_nonneg (by omega) h0
  · have : b.Room * n ≤ 60 * 8 := Int.mul_le_mul (by omega) h8 h0 (by omega)
    omega
theorem Spn.bnd {b : TallyBook} (V : Bk b) {out : TallyCount → Nat → Bool} {a c : Nat} {lo hi : Int} (S : Spn (Fit b out) a c lo hi) (hac : a ≤ c) (hc : (c : Int) ≤ b.Trips) : 0 ≤ lo ∧ lo ≤ hi ∧ hi ≤ b.Room * ((c : Int) - a) ∧ hi ≤ 480 := by
  obtain ⟨q, hq, h1⟩ := S.loE
  obtain ⟨q', hq', h2⟩ := S.hiE
  have a1 := fit_bnd V hq hac hc
  have a2 := fit_bnd V hq' hac hc
  have a3 := S.all q hq
  have a4 := V.t8
  have a5 := room_mul V (n := (c : Int) - a) (by omega) (by omega)
  omega
def plus (b : TallyBook) (x : TallyCount) : TallyBook := ⟨b.Trips, b.Room, b.Counts ++ [x]⟩
theorem with_eq {b : TallyBook} (h : b.Counts.length ≤ 1000000) (x : TallyCount) : tally_with b x = some (plus b x) := by
  unfold tally_with plus
  rw [need_of]
  simp [fitsL]; omega
theorem Val.plus {b : TallyBook} (V : Val b) {x : TallyCount} (hx : Cnt b.Trips x) : Bk (plus b x) := by
  refine ⟨V.t1, V.t8, V.r0, V.r60, by have := V.l8; simp [YtplpalmabgjibaaDoor.plus]; omega, fun y hy => ?_⟩
  rcases List.mem_append.1 hy with hy | hy
  · exact V.cs y hy
  · rw [List.mem_singleton.1 hy]; exact cnt_iff.2 hx
theorem fit_plus {b : TallyBook} {x : TallyCount} {q : Nat → Int} : Fit (plus b x) no q ↔ Fit b no q ∧ CntQ x q := by
  unfold Fit plus
  simp only
  rw [and_assoc]
  refine and_congr_right fun _ => ?_
  unfold CntsQ no
  constructor
  · intro h
    refine ⟨fun i y hy ho => h i y ?_ ho, h b.Counts.length x (by simp) rfl⟩
    rw [List.getElem?_append_left (List.getElem?_eq_some_iff.1 hy).1]; exact hy
  · rintro ⟨h1, h2⟩ i y hy ho
    by_cases hi : i < b.Counts.length
    · rw [List.getElem?_append_left hi] at hy; exact h1 i y hy ho
    · rw [List.getElem?_append_right (by omega), List.getElem?_singleton] at hy
      split at hy
      · cases hy; exact h2
      · cases hy
end Go.Proofs.YtplpalmabgjibaaDoor

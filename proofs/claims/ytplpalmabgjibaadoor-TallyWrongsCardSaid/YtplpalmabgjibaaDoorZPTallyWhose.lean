/- The plain law of those who count. -/
import Derived.Test.YtplpalmabgjibaaDoorZWTallyWhose
import Derived.Test.YtplpalmabgjibaaDoorZPWrong
import Derived.Test.YtplpalmabgjibaaDoorZPCounted
set_option linter.unusedVariables false
set_option linter.unusedSimpArgs false
namespace Go.Proofs.YtplpalmabgjibaaDoor
open Go Go.Fx Go.Tally
/-- without all counts of one -/
def outW (w : Int) : TallyCount → Nat → Bool := fun x _ => x.Who == w
def CanW (b : TallyBook) (w : Int) : Prop := ∃ q, Fit b (outW w) q
theorem Fit.weak {b : TallyBook} {o o' : TallyCount → Nat → Bool} {q : Nat → Int} (h : Fit b o q) (hw : ∀ i x, b.Counts[i]? = some x → o x i = true → o' x i = true) : Fit b o' q := by
  refine ⟨h.1, fun i x hx ho => h.2 i x hx ?_⟩
  cases hc : o x i
  · rfl
  · rw [hw i x hx hc] at ho; cases ho
theorem whose1_eq {b : TallyBook} (V : Bk b) (w : Int) : ∃ m, tally_opened b (Tally_leave.mk fun y34 y35 => tally_whose_1 y34 y35 w) = some ⟨b, m⟩ ∧ Opn b (outW w) m := by
  obtain ⟨m, h1, h2, h3, h4⟩ := opened_eq V (lv := Tally_leave.mk fun y34 y35 => tally_whose_1 y34 y35 w) (out := outW w) (fun i x _ => rfl)
  exact ⟨m, h1, V, h2, h3, h4⟩
/-- the list of those without whose counts the book can be true -/
structure Who (b : TallyBook) (l : List Int) (k : Nat) : Prop where
  clm : Clm l k
  mem : ∀ w : Nat, w < k → ((w : Int) ∈ l ↔ CanW b w)
  all : (∀ w : Nat, w < k → CanW b w) → l.length = k
theorem whose_eq {b : TallyBook} (V : Val b) : ∃ l, tally_Whose b = some (l, 0) ∧ Who b l 3 := by
  unfold tally_Whose
  rw [check_ok V, Option.bind_some]
  simp only [bne_self_eq_false, cond_false]
  refine Exists.elim (loopF_inv (body := tally_Whose_l3 b) (fun z : List Int × Int => ∃ k : Nat, z.2 = k ∧ k ≤ 3 ∧ Who b z.1 k) (fun z => 3 - z.2.toNat) (fun r => ∃ l, r = (l, 0) ∧ Who b l 3) ?_ big ([], 0) ⟨0, rfl, by omega, ⟨Clm.nil, fun w h => absurd h (Nat.not_lt_zero w), fun _ => rfl⟩⟩ (by unfold big; simp)) fun r ⟨h1, l, h2, h3⟩ => ⟨l, by rw [h1, h2], h3⟩
  rintro rec ⟨l, i⟩ ⟨k, rfl, hk, hW⟩ ih
  simp only at hW ih ⊢
  unfold tally_Whose_l3
  simp only
  by_cases hlt : k < 3
  case neg =>
    rw [decide_eq_false (by omega), cond_false]
    have : k = 3 := by omega
    subst this
    exact ⟨_, rfl, l, rfl, hW⟩
  rw [decide_eq_true (by omega), cond_true]
  unfold tally_whose
  rw [Option.bind_some]
  obtain ⟨m, hm, O⟩ := whose1_eq V.bk (k : Int)
  obtain ⟨r, hr, hi⟩ := can_eq O b.Counts
  rw [hm, Option.bind_some]
  simp only
  rw [hr, Option.bind_some, wrI (by omega) (by omega)]
  have hlen := hW.clm.len (by omega)
  have up : Clm l ((k + 1 : Nat) : Int) := fun j x hx => by
    obtain ⟨a1, a2, a3⟩ := hW.clm j x hx
    exact ⟨a1, by omega, a3⟩
  have nk : (k : Int) ∉ l := fun h => by
    obtain ⟨j, hj, he⟩ := List.getElem_of_mem h
    have := (hW.clm j _ (List.getElem?_eq_getElem hj)).2.1
    omega
  cases r with
  | true =>
    rw [cond_true, need_of (by simp [fitsL]; omega)]
    refine ih _ ⟨k + 1, by simp, by omega, ⟨?_, fun w hw => ?_, fun h => ?_⟩⟩ (by (try simp); omega)
    · refine up.snoc (by omega) (by omega) (fun y hy => ?_)
      rw [List.getLast?_eq_getElem?] at hy
      exact (hW.clm _ _ hy).2.1
    · simp only [List.mem_append, List.mem_singleton]
      by_cases hwk : w = k
      · subst hwk; exact ⟨fun _ => hi.1 rfl, fun _ => .inr rfl⟩
      · rw [← hW.mem w (by omega)]
        constructor
        · rintro (h | h)
          · exact h
          · omega
        · exact .inl
    · have := hW.all fun w hw => h w (by omega)
      simp [this]
  | false =>
    rw [cond_false]
    have hn : ¬ CanW b k := fun h => by simpa using hi.2 h
    refine ih _ ⟨k + 1, by simp, by omega, ⟨up, fun w hw => ?_, fun h => absurd (h k (by omega)) hn⟩⟩ (by (try simp); omega)
    by_cases hwk : w = k
    · subst hwk; exact ⟨fun h => absurd h nk, fun h => absurd h hn⟩
    · exact hW.mem w (by omega)
theorem whose_bad {b : TallyBook} (hl : b.Counts.length ≤ 9223372036854775807) (h : valB b = false) : tally_Whose b = some ([], 50) := by
  unfold tally_Whose
  rw [check_eq b hl, h]
  rfl
end Go.Proofs.YtplpalmabgjibaaDoor

/- The plain law of those who count. -/
import Derived.Test.YtplpalmabgjibaaDoorWTallyWhose
import Derived.Test.YtplpalmabgjibaaDoorPWrong
import Derived.Test.YtplpalmabgjibaaDoorPCounted
set_option linter.unusedVariables false
set_option linter.unusedSimpArgs false
namespace Go.Proofs.YtplpalmabgjibaaDoor
open Go Go.Fx Go.Tally
/-- without all counts of one -/
def outW (w : Int) : TallyCount → Nat → Bool := fun x _ => x.Who == w
def CanW (b : TallyBook) (w : Int) : Prop := ∃ q, Fit b (outW w) q
theorem Fit.weak {b : TallyBook} {o o' : TallyCount → Nat → Bool} {q : Nat → Int} (h : Fit b o q) (hw : ∀ i x, b.Counts[i]? = some x → o x i = true → o' x i = true) : Fit b o' q := by
  refine ⟨h.1, fun i x hx ho => h.2 i x hx ?_⟩
  cases hc : o x i
  · rfl
  · rw [hw i x hx hc] at ho; cases ho
theorem whose1_eq {b : TallyBook} (V : Bk b) (w : Int) : ∃ m, tally_opened b (Tally_leave.mk fun y34 y35 => tally_whose_1 y34 y35 w) = some ⟨b, m⟩ ∧ Opn b (outW w) m := by
  obtain ⟨m, h1, h2, h3, h4⟩ := opened_eq V (lv := Tally_leave.mk fun y34 y35 => tally_whose_1 y34 y35 w) (out := outW w) (fun i x _ => rfl)
  exact ⟨m, h1, V, h2, h3, h4⟩
/-- the list of those without whose counts the book can be true -/
structure Who (b : TallyBook) (l : List Int) (k : Nat) : Prop where
  clm : Clm l k
  mem : ∀ w : Nat, w < k → ((w : Int) ∈ l ↔ CanW b w)
  all : (∀ w : Nat, w < k → CanW b w) → l.length = k
theorem whose_eq {b : TallyBook} (V : Val b) : ∃ l, tally_Whose b = some (l, 0) ∧ Who b l 3 := by
  unfold tally_Whose
  rw [check_ok V, Option.bind_some]
  simp only [bne_self_eq_false, cond_false]
  refine Exists.elim (loopF_inv (body := tally_Whose_l3 b) (fun z : List Int × Int => ∃ k : Nat, z.2 = k ∧ k ≤ 3 ∧ Who b z.1 k) (fun z => 3 - z.2.toNat) (fun r => ∃ l, r = (l, 0) ∧ Who b l 3) ?_ big ([], 0) ⟨0, rfl, by omega, ⟨Clm.nil, fun w h => absurd h (Nat.not_lt_zero w), fun _ => rfl⟩⟩ (by unfold big; simp)) fun r ⟨h1, l, h2, h3⟩ => ⟨l, by rw [h1, h2], h3⟩
  rintro rec ⟨l, i⟩ ⟨k, rfl, hk, hW⟩ ih
  simp only at hW ih ⊢
  unfold tally_Whose_l3
  simp only
  by_cases hlt : k < 3
  case neg =>
    rw [decide_eq_false (by omega), cond_false]
    have : k = 3 := by omega
    subst this
    exact ⟨_, rfl, l, rfl, hW⟩
  rw [decide_eq_true (by omega), cond_true]
  unfold tally_whose
  rw [Option.bind_some]
  obtain ⟨m, hm, O⟩ := whose1_eq V.bk (k : Int)
  obtain ⟨r, hr, hi⟩ := can_eq O b.Counts
  rw [hm, Option.bind_some]
  simp only
  rw [hr, Option.bind_some, wrI (by omega) (by omega)]
  have hlen := hW.clm.len (by omega)
  have up : Clm l ((k + 1 : Nat) : Int) := fun j x hx => by
    obtain ⟨a1, a2, a3⟩ := hW.clm j x hx
    exact ⟨a1, by omega, a3⟩
  have nk : (k : Int) ∉ l := fun h => by
    obtain ⟨j, hj, he⟩ := List.getElem_of_mem h
    have := (hW.clm j _ (List.getElem?_eq_getElem hj)).2.1
    omega
  cases r with
  | true =>
    rw [cond_true, need_of (by simp [fitsL]; omega)]
    refine ih _ ⟨k + 1, by simp, by omega, ⟨?_, fun w hw => ?_, fun h => ?_⟩⟩ (by (try simp); omega)
    · refine up.snoc (by omega) (by omega) (fun y hy => ?_)
      rw [List.getLast?_eq_getElem?] at hy
      exact (hW.clm _ _ hy).2.1
    · simp only [List.mem_append, List.mem_singleton]
      by_cases hwk : w = k
      · subst hwk; exact ⟨fun _ => hi.1 rfl, fun _ => .inr rfl⟩
      · rw [← hW.mem w (by omega)]
        constructor
        · rintro (h | h)
          · exact h
          · omega
        · exact .inl
    · have := hW.all fun w hw => h w (by omega)
      simp [this]
  | false =>
    rw [cond_false]
    have hn : ¬ CanW b k := fun h => by simpa using hi.2 h
    refine ih _ ⟨k + 1, by simp, by omega, ⟨up, fun w hw => ?_, fun h => absurd (h k (by omega)) hn⟩⟩ (by (try simp); omega)
    by_cases hwk : w = k
    · subst hwk; exact ⟨fun h => absurd h nk, fun h => absurd h hn⟩
    · exact hW.mem w (by omega)
theorem whose_bad {b : TallyBook} (hl : b.Counts.length ≤ 9223372036854775807) (h : valB b = false) : tally_Whose b = some ([], 50) := by
  unfold tally_Whose
  rw [check_eq b hl, h]
  rfl
theorem law_tallyWhose (b : TallyBook) (hl : b.Counts.length ≤ 9223372036854775807) (a : Int) : law_TallyWhose b a = some true := by
  unfold law_TallyWhose
  cases hv : valB b
  case false =>
    rw [whose_bad hl hv, Option.bind_some, sound_eq b hl, Option.bind_some, hv, counted_t]; rfl
  have V := val_iff.1 hv
  have l8 := V.l8
  obtain ⟨l, hlq, W⟩ := whose_eq V
  rw [hlq, Option.bind_some, sound_eq b hl, Option.bind_some, hv]
  simp only [Bool.not_true, cond_false]
  obtain ⟨who, hwho, hw0⟩ := mod_ok a 3 (by omega) (by omega)
  rw [hwho, Option.bind_some]
  refine loopF_spec (body := law_TallyWhose_l3 b who (l, 0)) (fun z : List Int × Int => ∃ k : Nat, z.2 = k ∧ k ≤ b.Counts.length ∧ z.1.length ≤ k ∧ ∀ y : Int, y ∈ z.1 ↔ ∃ j : Nat, j < k ∧ y = j ∧ ∃ x, b.Counts[j]? = some x ∧ x.Who = who) (fun z => b.Counts.length - z.2.toNat) (fun _ => true) ?_ big ([], 0) ⟨0, rfl, Nat.zero_le _, Nat.le_refl _, fun y => by simp⟩ (by unfold big; simp; omega)
  rintro rec ⟨ow, i⟩ ⟨k, rfl, hk, hol, hmem⟩ ih
  simp only at hol hmem ih ⊢
  unfold law_TallyWhose_l3
  simp only
  by_cases hlt : k < b.Counts.length
  · rw [decide_eq_true (by omega), cond_true, getI_nat, List.getElem?_eq_getElem hlt, Option.bind_some, wrI (by omega) (by omega)]
    have hx := List.getElem?_eq_getElem hlt
    generalize b.Counts[k] = x at hx
    by_cases hw : x.Who = who
    · rw [show (x.Who == who) = true by simpa using hw, cond_true, need_of (by simp [fitsL]; omega)]
      refine ih _ ⟨k + 1, by simp, by omega, by simp; omega, fun y => ?_⟩ (by (try simp); omega)
      simp only [List.mem_append, List.mem_singleton, hmem]
      constructor
      · rintro (⟨j, h1, h2⟩ | rfl)
        · exact ⟨j, by omega, h2⟩
        · exact ⟨k, by omega, rfl, x, hx, hw⟩
      · rintro ⟨j, h1, h2, h3⟩
        by_cases hjk : j = k
        · subst hjk; exact .inr h2
        · exact .inl ⟨j, by omega, h2, h3⟩
    · rw [show (x.Who == who) = false by simpa using hw, cond_false]
      refine ih _ ⟨k + 1, by simp, by omega, by (try simp only); omega, fun y => ?_⟩ (by (try simp); omega)
      simp only [hmem]
      constructor
      · rintro ⟨j, h1, h2⟩; exact ⟨j, by omega, h2⟩
      · rintro ⟨j, h1, h2, x', h3, h4⟩
        by_cases hjk : j = k
        · subst hjk; rw [hx] at h3; cases h3; exact absurd h4 hw
        · exact ⟨j, by omega, h2, x', h3, h4⟩
  · rw [decide_eq_false (by omega), cond_false]
    have hkn : k = b.Counts.length := by omega
    subst hkn
    have own : ∀ i x, b.Counts[i]? = some x → (outL ow x i = true ↔ outW who x i = true) := by
      intro i x hx
      unfold outL outW
      rw [decide_eq_true_eq, beq_iff_eq, hmem]
      constructor
      · rintro ⟨j, _, h2, x', h3, h4⟩
        obtain rfl : i = j := by omega
        rw [hx] at h3; cases h3; exact h4
      · intro h; exact ⟨i, (List.getElem?_eq_some_iff.1 hx).1, rfl, x, hx, h⟩
    obtain ⟨is, hr, hri⟩ := right_eq V
    obtain ⟨x, hx, VX, hxf⟩ := without_eq V (l := ow) (by omega)
    obtain ⟨so, hs, hsi⟩ := right_eq VX
    obtain ⟨w, hw, F⟩ := wrong_eq V
    have wl := F.clm.len (by omega)
    have ll := W.clm.len (by omega)
    have hso : so = true ↔ CanW b who := by
      rw [hsi]
      constructor
      · rintro ⟨q, hq⟩; exact ⟨q, ((hxf q).1 hq).weak fun i x hx ho => (own i x hx).1 ho⟩
      · rintro ⟨q, hq⟩; exact ⟨q, (hxf q).2 (hq.weak fun i x hx ho => (own i x hx).2 ho)⟩
    rw [hr, Option.bind_some, hx, Option.bind_some, hs, Option.bind_some, hw, Option.bind_some]
    simp only [bne_self_eq_false, cond_false]
    rw [climbs_eq (n := 3) W.clm (by omega) (by omega) (by omega), Option.bind_some, Bool.not_true, cond_false, climbs_eq F.clm (by omega) (by omega) (by omega), Option.bind_some, Bool.not_true, cond_false]
    have fin : law_TallyWhose_j2 (l, 0) who (so, 0) (w, 0) b () = some true := by
      unfold law_TallyWhose_j2
      obtain ⟨r, har, ha0, _⟩ := at_loop l who (by omega)
      simp only
      rw [har, Option.bind_some]
      have e1 : decide (r ≥ 0) = so := by
        rw [Bool.eq_iff_iff, hso, decide_eq_true_eq]
        have := W.mem who.toNat (by omega)
        rw [show ((who.toNat : Nat) : Int) = who by omega] at this
        rw [← this]
        exact ha0
      rw [e1, beq_self_eq_true, cond_true]
      by_cases h1 : w.length = 1
      · rw [show ((w.length : Int) != 1) = false by simp; omega, cond_false]
        match w, h1, F with
        | [v], _, F =>
          obtain ⟨v0, v1, _⟩ := F.clm 0 v rfl
          obtain ⟨y, hy, hy'⟩ := getI_lt (l := b.Counts) v0 v1
          rw [show getI [v] 0 = some v from rfl, Option.bind_some, hy, Option.bind_some]
          have hc := cnt_iff.1 (V.cs y (List.mem_of_getElem? hy'))
          obtain ⟨r2, hr2, hr20, _⟩ := at_loop l y.Who (by omega)
          rw [hr2, Option.bind_some, counted_t]
          have hcw : CanW b y.Who := by
            obtain ⟨q, hq⟩ := F.can
            refine ⟨q, hq.weak fun i x hx ho => ?_⟩
            unfold outL at ho
            simp only [decide_eq_true_eq, List.mem_singleton] at ho
            rw [show v.toNat = i by omega, hx] at hy'
            cases hy'
            simp [outW]
          have hm := W.mem y.Who.toNat (by have := hc.w0; have := hc.w2; omega)
          rw [show ((y.Who.toNat : Nat) : Int) = y.Who by have := hc.w0; omega] at hm
          rw [decide_eq_true (show r2 ≥ 0 from hr20.2 (hm.2 hcw))]
          rfl
      · rw [show ((w.length : Int) != 1) = true by simp; omega, cond_true, counted_t]; rfl
    cases is with
    | false => rw [cond_false]; exact fin
    | true =>
      have h3 : l.length = 3 := W.all fun v hv => by
        obtain ⟨q, hq⟩ := hri.1 rfl
        exact ⟨q, hq.weak fun i x hx ho => by cases ho⟩
      rw [cond_true, show ((l.length : Int) != 3) = false by simp; omega, cond_false]
      exact fin
end Go.Proofs.YtplpalmabgjibaaDoor

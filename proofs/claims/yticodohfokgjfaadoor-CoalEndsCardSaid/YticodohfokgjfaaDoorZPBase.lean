/- Plain facts of the layer of coal: loops, and what the small functions come to. -/
import Derived.Test.YticodohfokgjfaaDoorZWAll
set_option linter.unusedVariables false
set_option linter.unusedSimpArgs false
namespace Go.Proofs.YticodohfokgjfaaDoor
open Go Go.Fx
theorem wrI {x : Int} (h0 : -9223372036854775808 ≤ x) (h1 : x ≤ 9223372036854775807) : Fx.wr x = x := wr_eq h0 h1
def inB (a lo hi : Int) : Bool := decide (lo ≤ a) && decide (a ≤ hi)
theorem inB_iff {a lo hi : Int} : inB a lo hi = true ↔ lo ≤ a ∧ a ≤ hi := by simp [inB]
theorem within_eq (a b c : Int) : coal_within a b c = some (inB a b c) := by
  unfold coal_within inB
  cases decide (b ≤ a) <;> rfl
theorem inside_eq (a b c : Int) : B_Inside a b c = some (inB a b c) := by
  unfold B_Inside inB
  rw [show decide (a ≥ b) = decide (b ≤ a) from rfl]
  cases decide (b ≤ a) <;> rfl
theorem getI_ix {α : Type} {l : List α} {k : Nat} (h : k < l.length) : getI l (k : Int) = some l[k] := by rw [getI_nat, List.getElem?_eq_getElem h]
theorem mod_ok (a m : Int) (h : 0 < m) (h2 : m ≤ 9223372036854775807) : ∃ r, B_Mod a m = some r ∧ 0 ≤ r ∧ r < m := by
  unfold B_Mod modI
  rw [decide_eq_false (by omega), cond_false, need_of (by simp; omega)]
  have h3 := Int.tmod_lt_of_pos a h
  have h4 := Int.lt_tmod_of_pos a h
  by_cases hn : a.tmod m < 0
  · rw [decide_eq_true hn, cond_true, wrI (by omega) (by omega)]
    exact ⟨_, rfl, by omega, by omega⟩
  · rw [decide_eq_false hn, cond_false]
    exact ⟨_, rfl, by omega, by omega⟩
/-- a loop whose state behind k rounds is known -/
theorem loop_fold {σ ρ : Type} {body : (σ → Option ρ) → σ → Option ρ} (S : Nat → σ) (n : Nat) {R : Option ρ} (hs : ∀ rec k, k < n → body rec (S k) = rec (S (k + 1))) (he : ∀ rec, body rec (S n) = R) (hn : n < big) : loopF body big (S 0) = R := by
  have key : ∀ d k m, k + d = n → d < m → loopF body m (S k) = R := by
    intro d
    induction d with
    | zero =>
      intro k m h1 h2
      obtain ⟨m, rfl⟩ : ∃ q, m = q + 1 := ⟨m - 1, by omega⟩
      obtain rfl : k = n := by omega
      exact he _
    | succ d ih =>
      intro k m h1 h2
      obtain ⟨m, rfl⟩ : ∃ q, m = q + 1 := ⟨m - 1, by omega⟩
      show body (loopF body m) (S k) = R
      rw [hs _ k (by omega)]
      exact ih (k + 1) m (by omega) (by omega)
  exact key n 0 big (by omega) hn
theorem loop_fold0 {σ ρ : Type} {body : (σ → Option ρ) → σ → Option ρ} (S : Nat → σ) (n : Nat) {s0 : σ} {R : Option ρ} (hs : ∀ rec k, k < n → body rec (S k) = rec (S (k + 1))) (he : ∀ rec, body rec (S n) = R) (hn : n < big) (h0 : S 0 = s0) : loopF body big s0 = R := h0 ▸ loop_fold S n hs he hn
theorem big_eq : big = 18446744073709551616 := by decide
/-- all of a list, seen one by one -/
def allTo {α : Type} (p : α → Bool) (l : List α) (ok : Bool) (k : Nat) : Bool := ok && (l.take k).all p
theorem allTo_zero {α : Type} {p : α → Bool} {l : List α} {ok : Bool} : allTo p l ok 0 = ok := by simp [allTo]
theorem allTo_succ {α : Type} {p : α → Bool} {l : List α} {ok : Bool} {k : Nat} (h : k < l.length) : allTo p l ok (k + 1) = (allTo p l ok k && p l[k]) := by
  unfold allTo
  rw [← List.take_append_getElem h, List.all_append]
  simp [Bool.and_assoc]
theorem allTo_end {α : Type} {p : α → Bool} {l : List α} {ok : Bool} : allTo p l ok l.length = (ok && l.all p) := by simp [allTo]
theorem wrN {k : Nat} {n : Nat} (h : k < n) (hn : n ≤ 9223372036854775807) : Fx.wr ((k : Int) + 1) = ((k + 1 : Nat) : Int) := by rw [wrI (by omega) (by omega)]; omega
structure Arg (b : CoalBook) : Prop where
  dl : b.Days.length ≤ 9223372036854775807
  pl : b.Dips.length ≤ 9223372036854775807
  el : b.Eats.length = 2
  xl : b.Extra.length = 3
def spB (s : Span) (hi wide : Int) : Bool := decide (0 ≤ s.Low) && decide (s.Low ≤ s.High) && decide (s.High ≤ hi) && decide (s.High - s.Low ≤ wide)
theorem isSpan_eq (s : Span) (hi wide : Int) (hh : hi ≤ 9223372036854775807) : coal_isSpan s hi wide = some (spB s hi wide) := by
  unfold coal_isSpan spB
  by_cases h1 : 0 ≤ s.Low <;> by_cases h2 : s.Low ≤ s.High <;> by_cases h3 : s.High ≤ hi <;> simp only [h1, h2, h3, decide_true, decide_false, cond_true, cond_false, Bool.true_and, Bool.false_and, Bool.and_false]
  rw [wrI (by omega) (by omega)]
theorem spB_valid {s : Span} {hi wide : Int} (h : spB s hi wide = true) : B_Valid s 0 hi = some true := by
  unfold spB at h
  simp only [Bool.and_eq_true, decide_eq_true_eq] at h
  unfold B_Valid
  simp [h.1.1.1, h.1.1.2, h.1.2]
def dayB (x : CoalDay) : Bool := inB x.Crosses 0 9 && inB x.Engines 1 3 && inB x.Winds 1 7
def dipB (n : Nat) (x : CoalDip) : Bool := inB x.Day 0 ((n : Int) - 1) && inB x.Read 0 800 && inB x.Error 0 9
theorem isDay_eq (b : CoalBook) (A : Arg b) (n : Int) : coal_isDay b n = some (inB n 0 ((b.Days.length : Int) - 1)) := by
  unfold coal_isDay
  have := A.dl
  rw [wrI (by omega) (by omega), within_eq]; rfl
def valB (b : CoalBook) : Bool := spB b.Heap 400 4 && inB b.Days.length 1 6 && spB b.Collier b.Days.length 3 && inB b.Brings 0 400 && decide ((b.Dips.length : Int) ≤ 4) && b.Eats.all (spB · 9 2) && b.Extra.all (inB · 0 9) && b.Days.all dayB && b.Dips.all (dipB b.Days.length)
theorem check_tail (b : CoalBook) (A : Arg b) (ok : Bool) : coal_Check_j9 b ok = some (bif ok && b.Eats.all (spB · 9 2) && b.Extra.all (inB · 0 9) && b.Days.all dayB && b.Dips.all (dipB b.Days.length) then 0 else 60) := by
  have h1 := A.dl; have h2 := A.pl; have h3 := A.el; have h4 := A.xl
  unfold coal_Check_j9
  refine loop_fold0 (fun k => (allTo (spB · 9 2) b.Eats ok k, (k : Int))) 2 (fun rec k hk => ?_) (fun rec => ?_) (by rw [big_eq]; omega) (by rw [allTo_zero]; rfl)
  · unfold coal_Check_l8
    simp only
    rw [decide_eq_true (by omega), cond_true, need_of (by simp [inI]; omega), wrN hk (by omega), allTo_succ (by omega)]
    rw [isSpan_eq _ _ _ (by omega), show agetS b.Eats (k : Int) = b.Eats[k]'(by omega) by simp [agetS, List.getD_eq_getElem?_getD, List.getElem?_eq_getElem (show k < b.Eats.length by omega)]]
    cases allTo (spB · 9 2) b.Eats ok k <;> simp
  unfold coal_Check_l8
  simp only
  rw [decide_eq_false (by omega), cond_false, show allTo (spB · 9 2) b.Eats ok 2 = (ok && b.Eats.all (spB · 9 2)) by rw [← h3, allTo_end]]
  generalize (ok && b.Eats.all (spB · 9 2)) = ok
  refine loop_fold0 (fun k => (allTo (inB · 0 9) b.Extra ok k, (k : Int))) 3 (fun rec k hk => ?_) (fun rec => ?_) (by rw [big_eq]; omega) (by rw [allTo_zero]; rfl)
  · unfold coal_Check_l7
    simp only
    rw [decide_eq_true (by omega), cond_true, need_of (by simp [inI]; omega), wrN hk (by omega), allTo_succ (by omega), within_eq]
    rw [show aget b.Extra (k : Int) = b.Extra[k]'(by omega) by simp [aget, List.getD_eq_getElem?_getD, List.getElem?_eq_getElem (show k < b.Extra.length by omega)]]
    cases allTo (inB · 0 9) b.Extra ok k <;> simp
  unfold coal_Check_l7
  simp only
  rw [decide_eq_false (by omega), cond_false, show allTo (inB · 0 9) b.Extra ok 3 = (ok && b.Extra.all (inB · 0 9)) by rw [← h4, allTo_end]]
  generalize (ok && b.Extra.all (inB · 0 9)) = ok
  refine loop_fold0 (fun k => (allTo dayB b.Days ok k, (k : Int))) b.Days.length (fun rec k hk => ?_) (fun rec => ?_) (by rw [big_eq]; omega) (by rw [allTo_zero]; rfl)
  · unfold coal_Check_l6
    simp only
    rw [decide_eq_true (by omega), cond_true, getI_ix hk, Option.bind_some, wrN hk h1, allTo_succ hk]
    simp only [within_eq, Option.bind_some]
    have e : dayB b.Days[k] = (inB b.Days[k].Crosses 0 9 && inB b.Days[k].Engines 1 3 && inB b.Days[k].Winds 1 7) := rfl
    rw [e]
    cases allTo dayB b.Days ok k <;> cases inB b.Days[k].Crosses 0 9 <;> cases inB b.Days[k].Engines 1 3 <;> cases inB b.Days[k].Winds 1 7 <;> rfl
  unfold coal_Check_l6
  simp only
  rw [decide_eq_false (by omega), cond_false, allTo_end]
  generalize (ok && b.Days.all dayB) = ok
  refine loop_fold0 (fun k => (allTo (dipB b.Days.length) b.Dips ok k, (k : Int))) b.Dips.length (fun rec k hk => ?_) (fun rec => ?_) (by rw [big_eq]; omega) (by rw [allTo_zero]; rfl)
  · unfold coal_Check_l5
    simp only
    rw [decide_eq_true (by omega), cond_true, getI_ix hk, Option.bind_some, wrN hk h2, allTo_succ hk]
    simp only [within_eq, isDay_eq b A, Option.bind_some]
    have e : dipB b.Days.length b.Dips[k] = (inB b.Dips[k].Day 0 ((b.Days.length : Int) - 1) && inB b.Dips[k].Read 0 800 && inB b.Dips[k].Error 0 9) := rfl
    rw [e]
    cases allTo (dipB b.Days.length) b.Dips ok k <;> cases inB b.Dips[k].Day 0 ((b.Days.length : Int) - 1) <;> cases inB b.Dips[k].Read 0 800 <;> cases inB b.Dips[k].Error 0 9 <;> rfl
  unfold coal_Check_l5
  simp only
  rw [decide_eq_false (by omega), cond_false, allTo_end]
  cases (ok && b.Dips.all (dipB b.Days.length)) <;> rfl
theorem check_eq (b : CoalBook) (A : Arg b) : coal_Check b = some (bif valB b then 0 else 60) := by
  have h1 := A.dl; have h2 := A.pl
  unfold coal_Check valB
  simp only [within_eq, isSpan_eq _ _ _ (show (400 : Int) ≤ 9223372036854775807 by omega), isSpan_eq _ _ _ (show (b.Days.length : Int) ≤ 9223372036854775807 by omega), Option.bind_some, check_tail b A]
  cases spB b.Heap 400 4 <;> cases inB b.Days.length 1 6 <;> cases spB b.Collier b.Days.length 3 <;> cases inB b.Brings 0 400 <;> rfl
theorem loop_at {σ ρ : Type} {body : (σ → Option ρ) → σ → Option ρ} {s : σ} {R : Option ρ} (h : ∀ rec, body rec s = R) : loopF body big s = R := by
  rw [big_eq]; exact h _
theorem sound_false (b : CoalBook) : law_sound_j14 b false = some false := by
  unfold law_sound_j14; refine loop_at fun rec => ?_
  show loopF (law_sound_l11 b) big (false, 0) = _; refine loop_at fun rec => ?_
  show loopF (law_sound_l9 b) big (false, 0) = _; refine loop_at fun rec => ?_
  show loopF (law_sound_l7 b) big (false, 0) = _; refine loop_at fun rec => ?_
  rfl
structure Val (b : CoalBook) : Prop where
  hp : spB b.Heap 400 4 = true
  dn : 1 ≤ b.Days.length ∧ b.Days.length ≤ 6
  co : spB b.Collier b.Days.length 3 = true
  br : 0 ≤ b.Brings ∧ b.Brings ≤ 400
  pn : b.Dips.length ≤ 4
  ea : ∀ s ∈ b.Eats, spB s 9 2 = true
  ex : ∀ x ∈ b.Extra, 0 ≤ x ∧ x ≤ 9
  da : ∀ x ∈ b.Days, dayB x = true
  di : ∀ x ∈ b.Dips, dipB b.Days.length x = true
theorem val_iff {b : CoalBook} : valB b = true ↔ Val b := by
  unfold valB
  simp only [Bool.and_eq_true, List.all_eq_true, inB_iff, decide_eq_true_eq]
  constructor
  · rintro ⟨⟨⟨⟨⟨⟨⟨⟨a, b1, b2⟩, c⟩, d⟩, e⟩, f⟩, g⟩, h⟩, i⟩; exact ⟨a, ⟨by omega, by omega⟩, c, d, by omega, f, g, h, i⟩
  · rintro ⟨a, b, c, d, e, f, g, h, i⟩; exact ⟨⟨⟨⟨⟨⟨⟨⟨a, by omega, by omega⟩, c⟩, d⟩, by omega⟩, f⟩, g⟩, h⟩, i⟩
theorem sound_true (b : CoalBook) (A : Arg b) (V : Val b) : law_sound_j14 b true = some true := by
  have h1 := A.dl; have h2 := A.pl; have h3 := A.el; have h4 := A.xl
  unfold law_sound_j14
  refine loop_fold (fun k => (true, (k : Int))) 2 (fun rec k hk => ?_) (fun rec => ?_) (by rw [big_eq]; omega)
  · unfold law_sound_l13
    simp only
    rw [cond_true, decide_eq_true (by omega), cond_true, need_of (by simp [inI]; omega), wrN hk (by omega), show agetS b.Eats (k : Int) = b.Eats[k]'(by omega) by simp [agetS, List.getD_eq_getElem?_getD, List.getElem?_eq_getElem (show k < b.Eats.length by omega)], spB_valid (V.ea _ (List.getElem_mem _))]
    rfl
  unfold law_sound_l13 law_sound_j12
  simp only
  rw [cond_true, decide_eq_false (by omega), cond_false]
  refine loop_fold (fun k => (true, (k : Int))) 3 (fun rec k hk => ?_) (fun rec => ?_) (by rw [big_eq]; omega)
  · unfold law_sound_l11
    simp only
    rw [cond_true, decide_eq_true (by omega), cond_true, need_of (by simp [inI]; omega), wrN hk (by omega), inside_eq, show aget b.Extra (k : Int) = b.Extra[k]'(by omega) by simp [aget, List.getD_eq_getElem?_getD, List.getElem?_eq_getElem (show k < b.Extra.length by omega)], inB_iff.2 (V.ex _ (List.getElem_mem _))]
    rfl
  unfold law_sound_l11 law_sound_j10
  simp only
  rw [cond_true, decide_eq_false (by omega), cond_false]
  refine loop_fold (fun k => (true, (k : Int))) b.Days.length (fun rec k hk => ?_) (fun rec => ?_) (by rw [big_eq]; omega)
  · unfold law_sound_l9
    simp only
    have := V.da b.Days[k] (List.getElem_mem _)
    unfold dayB at this
    simp only [Bool.and_eq_true] at this
    rw [cond_true, decide_eq_true (by omega), cond_true, getI_ix hk, Option.bind_some, wrN hk h1]
    simp only [inside_eq, this.1.1, this.1.2, this.2, Option.bind_some, cond_true]
  unfold law_sound_l9 law_sound_j8
  simp only
  rw [cond_true, decide_eq_false (by omega), cond_false]
  refine loop_fold (fun k => (true, (k : Int))) b.Dips.length (fun rec k hk => ?_) (fun rec => ?_) (by rw [big_eq]; omega)
  · unfold law_sound_l7
    simp only
    have := V.di b.Dips[k] (List.getElem_mem _)
    unfold dipB at this
    simp only [Bool.and_eq_true] at this
    rw [cond_true, decide_eq_true (by omega), cond_true, getI_ix hk, Option.bind_some, wrN hk h2, wrI (by omega) (by omega)]
    simp only [inside_eq, this.1.1, this.1.2, this.2, Option.bind_some, cond_true]
  unfold law_sound_l7
  simp only
  rw [cond_true, decide_eq_false (by omega), cond_false]
theorem sound_eq (b : CoalBook) (A : Arg b) : law_sound b = some (valB b) := by
  unfold law_sound
  rw [check_eq b A, Option.bind_some]
  cases h : valB b with
  | false => rw [cond_false]; exact sound_false b
  | true =>
    have V := val_iff.1 h
    have e1 := spB_valid V.hp; have e2 := spB_valid V.co
    have e3 : inB (b.Days.length : Int) 1 6 = true := inB_iff.2 (by have := V.dn; omega)
    have e4 : inB b.Brings 0 400 = true := inB_iff.2 V.br
    have e5 : decide ((b.Dips.length : Int) ≤ 4) = true := decide_eq_true (by have := V.pn; omega)
    simp only [cond_true, beq_self_eq_true, inside_eq, e1, e2, e3, e4, e5, Option.bind_some]
    exact sound_true b A V
theorem Val.arg {b : CoalBook} (V : Val b) (el : b.Eats.length = 2) (xl : b.Extra.length = 3) : Arg b := ⟨by have := V.dn; omega, by have := V.pn; omega, el, xl⟩
end Go.Proofs.YticodohfokgjfaaDoor

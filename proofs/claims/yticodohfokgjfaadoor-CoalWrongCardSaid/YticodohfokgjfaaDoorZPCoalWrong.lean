/- The law of the measures that must be wrong. -/
import Derived.Test.YticodohfokgjfaaDoorZPWrong2
import Derived.Test.YticodohfokgjfaaDoorZWCoalWrong
set_option linter.unusedVariables false
set_option linter.unusedSimpArgs false
namespace Go.Proofs.YticodohfokgjfaaDoor
open Go Go.Fx
theorem Clm.up {l : List Int} {n m : Int} (h : Clm l n) (hm : n ≤ m) : Clm l m := fun k x hx => by
  obtain ⟨a, b, c⟩ := h k x hx
  exact ⟨a, by omega, c⟩
theorem Clm.last {l : List Int} {n y : Int} (h : Clm l n) (hy : l.getLast? = some y) : y < n := by
  rw [List.getLast?_eq_getElem?] at hy
  exact (h _ _ hy).2.1
theorem members_eq (a : Int) {n : Nat} (hn : n ≤ 8) : ∃ l, B_Members a n = some l ∧ Clm l n := by
  unfold B_Members
  refine loopF_inv (body := B_Members_l2 n a) (fun z : List Int × Int => ∃ k : Nat, z.2 = k ∧ k ≤ n ∧ Clm z.1 k) (fun z => n - z.2.toNat) (fun l => Clm l n) ?_ big ([], 0) ⟨0, rfl, Nat.zero_le _, Clm.nil⟩ (by unfold big; simp; omega)
  rintro rec ⟨l, i⟩ ⟨k, rfl, hk, hc⟩ ih
  simp only at hc ih ⊢
  unfold B_Members_l2
  simp only
  by_cases hlt : k < n
  · rw [decide_eq_true (by omega), cond_true]
    unfold B_Member
    rw [need_of (by simp), Option.bind_some, wrI (by omega) (by omega)]
    have hlen := hc.len (by omega)
    cases hb : (andI (shrI a k) 1 == 1)
    · rw [cond_false]
      exact ih _ ⟨k + 1, by simp, by omega, hc.up (by omega)⟩ (by (try simp); omega)
    · rw [cond_true, need_of (by simp [fitsL]; omega)]
      refine ih _ ⟨k + 1, by simp, by omega, ?_⟩ (by (try simp); omega)
      exact (hc.up (m := ((k + 1 : Nat) : Int)) (by omega)).snoc (by omega) (by omega) (fun y hy => hc.last hy)
  · rw [decide_eq_false (by omega), cond_false]
    have : k = n := by omega
    subst this
    exact ⟨_, rfl, hc⟩
theorem before_eq (o w : List Int) (h : o.length = w.length) (hl : o.length ≤ 1000) : ∃ r, B_Before o w = some r ∧ (r = true → LexLt o w) := by
  unfold B_Before
  refine loopF_inv (body := B_Before_l2 w o) (fun z : Int => ∃ k : Nat, z = k ∧ k ≤ o.length ∧ ∀ j, j < k → o[j]? = w[j]?) (fun z => o.length - z.toNat) (fun r => r = true → LexLt o w) ?_ big 0 ⟨0, rfl, Nat.zero_le _, fun j hj => absurd hj (Nat.not_lt_zero j)⟩ (by unfold big; simp; omega)
  rintro rec z ⟨k, rfl, hk, hj⟩ ih
  unfold B_Before_l2
  rw [show (if (w.length : Int) < (o.length : Int) then (w.length : Int) else (o.length : Int)) = (o.length : Int) by split <;> omega]
  by_cases hlt : k < o.length
  · rw [decide_eq_true (by omega), cond_true, getI_nat, getI_nat]
    have h1 := List.getElem?_eq_getElem hlt
    have h2 := List.getElem?_eq_getElem (show k < w.length by omega)
    generalize o[k] = x at h1
    generalize w[k]'(by omega) = y at h2
    rw [h1, h2]
    simp only [Option.bind_some]
    by_cases hxy : x = y
    · subst hxy
      rw [bne_self_eq_false, cond_false, wrI (by omega) (by omega)]
      refine ih _ ⟨k + 1, by simp, by omega, fun j hjk => ?_⟩ (by (try simp only); omega)
      by_cases hjk' : j = k
      · subst hjk'; rw [h1, h2]
      · exact hj j (by omega)
    · rw [show (x != y) = true by simpa using hxy, cond_true]
      exact ⟨_, rfl, fun hr => ⟨k, x, y, h1, h2, by simpa using hr, hj⟩⟩
  · rw [decide_eq_false (by omega), cond_false]
    exact ⟨_, rfl, fun hr => by simp at hr; omega⟩
theorem better_eq (o w : List Int) (h1 : o.length ≤ 1000) : ∃ r, B_Better o w = some r ∧ (r = true → o.length < w.length ∨ (o.length = w.length ∧ LexLt o w)) := by
  unfold B_Better
  by_cases h : o.length < w.length
  · rw [decide_eq_true (by omega), cond_true]
    exact ⟨true, rfl, fun _ => .inl h⟩
  · rw [decide_eq_false (by omega), cond_false]
    by_cases he : o.length = w.length
    · rw [show ((o.length : Int) == (w.length : Int)) = true by simp [he], cond_true]
      obtain ⟨r, hr, hi⟩ := before_eq o w he h1
      rw [hr, Option.bind_some]
      exact ⟨r, rfl, fun h => .inr ⟨he, hi h⟩⟩
    · rw [show ((o.length : Int) == (w.length : Int)) = false by simp; omega, cond_false]
      exact ⟨false, rfl, fun h => by cases h⟩
theorem wr_le (z : Int) : Fx.wr z ≤ 9223372036854775807 := by
  simp only [Fx.wr, IntKind.wrap, IntKind.bits, IntKind.signed]
  simp
  omega
theorem law_coalWrong (b : CoalBook) (A : Arg b) (a : Int) : law_CoalWrong b a = some true := by
  unfold law_CoalWrong
  cases hv : valB b
  case false =>
    have hw : coal_Wrong b = some ([], 60) := by
      unfold coal_Wrong
      rw [check_eq b A, hv]; rfl
    rw [hw, Option.bind_some, sound_eq b A, Option.bind_some, hv, stoked_eq]; rfl
  have V := val_iff.1 hv
  have l4 := V.pn
  obtain ⟨w, hw, F⟩ := wrong_law V A
  rw [hw, Option.bind_some, sound_eq b A, Option.bind_some, hv, right_law V A, Option.bind_some]
  simp only [Bool.not_true, cond_false, bne_self_eq_false]
  have wl := F.clm.len (by omega)
  rw [climbs_eq F.clm (by omega) (by omega) (by omega), Option.bind_some]
  simp only [Bool.not_true, cond_false]
  have e1 : ((w.length : Int) == 0) = !(TT b).isEmpty := by
    rw [Bool.eq_iff_iff, beq_iff_eq]
    constructor
    · intro h
      have h0 : w = [] := List.eq_nil_of_length_eq_zero (by omega)
      have := F.can
      rw [h0] at this
      have h2 : TT b ≠ [] := this
      cases hT : TT b with
      | nil => exact (h2 hT).elim
      | cons _ _ => rfl
    · intro h
      have h2 : CanO b [] := by
        intro h3
        have h3 : TT b = [] := h3
        rw [h3] at h; cases h
      have := F.len [] Clm.nil h2
      simp at this
      simp [this]
  rw [e1]
  simp only [bne_self_eq_false, cond_false]
  rw [need_of (by simp)]
  obtain ⟨r42, h42⟩ := mod_some a (shlI 1 b.Dips.length) (wr_le _)
  rw [h42, Option.bind_some]
  obtain ⟨o, ho, hoc⟩ := members_eq r42 (n := b.Dips.length) (by omega)
  rw [ho, Option.bind_some]
  have ol := hoc.len (by omega)
  rw [without_eq V (l := w) (by omega), Option.bind_some]
  rw [show coal_Right (CoalBook.mk (outB b w).Heap (outB b w).Eats (outB b w).Extra b.Days (outB b w).Collier (outB b w).Brings (outB b w).Dips) = some (!(TT (outB b w)).isEmpty, 0) from right_law (out_val V w) (out_arg V A w), Option.bind_some]
  rw [without_eq V (l := o) (by omega), Option.bind_some]
  rw [show coal_Right (CoalBook.mk (outB b o).Heap (outB b o).Eats (outB b o).Extra b.Days (outB b o).Collier (outB b o).Brings (outB b o).Dips) = some (!(TT (outB b o)).isEmpty, 0) from right_law (out_val V o) (out_arg V A o), Option.bind_some]
  simp only [beq_self_eq_true, cond_true]
  rw [out_TT, out_TT]
  have c1 : (!(truths (opn b w)).isEmpty) = true := by
    have : truths (opn b w) ≠ [] := F.can
    cases hT : truths (opn b w) with
    | nil => exact (this hT).elim
    | cons _ _ => rfl
  rw [c1, cond_true]
  obtain ⟨bt, hbt, hbi⟩ := better_eq o w (by omega)
  rw [hbt, Option.bind_some, stoked_eq]
  cases bt
  · rfl
  · have hno : truths (opn b o) = [] := by
      cases hT : truths (opn b o) with
      | nil => rfl
      | cons x l =>
        have hco : CanO b o := by
          intro h
          have h : truths (opn b o) = [] := h
          rw [hT] at h; cases h
        have h1 := F.len o hoc hco
        rcases hbi rfl with h | ⟨h, hlex⟩
        · omega
        · exact absurd hlex (F.lex o hoc hco h)
    rw [hno]; rfl
end Go.Proofs.YticodohfokgjfaaDoor

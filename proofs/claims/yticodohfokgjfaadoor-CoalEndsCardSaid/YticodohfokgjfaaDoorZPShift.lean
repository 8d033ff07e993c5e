/- Orders, eating and winds; a heap that is so much higher. -/
import Derived.Test.YticodohfokgjfaaDoorZPLate
set_option linter.unusedVariables false
set_option linter.unusedSimpArgs false
namespace Go.Proofs.YticodohfokgjfaaDoor
open Go Go.Fx
structure OrderOf (len : Nat) (L : List Coal_truth) (n : Int) : Prop where
  n0 : 0 ≤ n
  hi : n ≤ 100000
  ge : ∀ k, k < len → ∀ t ∈ L, -coalAt k t ≤ n
  is : n = 0 ∨ ∃ k, k < len ∧ ∃ t ∈ L, n = -coalAt k t
def eatAt (e : Nat) (t : Coal_truth) : Int := t.eats_.getD e 0
theorem eats_law {b : CoalBook} (V : Val b) (A : Arg b) {e : Nat} (he : e < 2) : ∃ s, coal_Eats b e = some (s, bif (TT b).isEmpty then 62 else 0) ∧ SpanOf (eatAt e) (TT b) s := by
  obtain ⟨s, hs, S⟩ := span_ex _ (opn_op V A []) (Coal_number.mk fun y => coal_eaten_1 y (e : Int)) (eatAt e) (fun t ht => by
    show coal_eaten_1 t (e : Int) = _
    unfold coal_eaten_1
    rw [need_of (by simp [inI]; omega)]
    rfl)
  refine ⟨s, ?_, S⟩
  unfold coal_Eats coal_eaten
  rw [within_eq, Option.bind_some, inB_iff.2 (show 0 ≤ (e : Int) ∧ (e : Int) ≤ 1 by omega), asked_eq V A, Option.bind_some]
  cases h : (TT b).isEmpty with
  | true =>
    have := S.nil (List.isEmpty_iff.1 h)
    subst this
    rfl
  | false =>
    simp only [cond_false, bne_self_eq_false, Option.bind_some, hs]
def windAt (d : Nat) (t : Coal_truth) : Nat := (t.winds_.getD d 0).toNat
def windSet (d : Nat) (L : List Coal_truth) : Nat := L.foldl (fun s t => s ||| 2 ^ windAt d t) 0
theorem or_small : ∀ (s : Fin 8) (w : Fin 3), orI (s.val : Int) (shlI 1 (w.val : Int)) = ((s.val ||| 2 ^ w.val : Nat) : Int) ∧ (s.val ||| 2 ^ w.val) < 8 := by decide +kernel
theorem windSet_lt {q : Coal_book} {d : Nat} : ∀ (L : List Coal_truth) (s : Nat), s < 8 → (∀ t ∈ L, windAt d t < 3) → L.foldl (fun s t => s ||| 2 ^ windAt d t) s < 8
  | [], s, hs, _ => hs
  | t :: L, s, hs, h => windSet_lt (q := q) L _ (or_small ⟨s, hs⟩ ⟨windAt d t, h t (List.mem_cons_self ..)⟩).2 fun t ht => h t (List.mem_cons_of_mem _ ht)
theorem foldY_wind (d : Nat) (hd : d < 6) : ∀ (L : List Coal_truth) (s : Nat), s < 8 → (∀ t ∈ L, 0 ≤ t.winds_.getD d 0 ∧ t.winds_.getD d 0 ≤ 2) → foldY (yvOf (coal_Wind_r1 (d : Int))) L (0, (s : Int)) = some (true, 0, ((L.foldl (fun s t => s ||| 2 ^ windAt d t) s : Nat) : Int))
  | [], s, hs, _ => rfl
  | t :: L, s, hs, h => by
    have ht := h t (List.mem_cons_self ..)
    have hw : ((windAt d t : Nat) : Int) = t.winds_.getD d 0 := by unfold windAt; omega
    have := or_small ⟨s, hs⟩ ⟨windAt d t, by omega⟩
    show (coal_Wind_r1 (d : Int) t (s : Int)).bind (fun r => bif r.1 then foldY (yvOf (coal_Wind_r1 (d : Int))) L r.2 else some (false, r.2)) = _
    have e : coal_Wind_r1 (d : Int) t (s : Int) = some (true, 0, ((s ||| 2 ^ windAt d t : Nat) : Int)) := by
      unfold coal_Wind_r1
      have e2 : aget t.winds_ (d : Int) = ((windAt d t : Nat) : Int) := by rw [hw]; rfl
      rw [need_of (by simp [inI]; omega), e2, need_of (by simp), this.1]
    rw [e, Option.bind_some]
    exact foldY_wind d hd L _ this.2 fun t ht => h t (List.mem_cons_of_mem _ ht)
theorem wind_law {b : CoalBook} (V : Val b) (A : Arg b) {d : Nat} (hd : d < b.Days.length) : coal_Wind b d = some (bif (TT b).isEmpty then (0, 62) else ((windSet d (TT b) : Int), 0)) := by
  have hdn := V.dn
  unfold coal_Wind coal_book_truths
  rw [isDay_eq b A, Option.bind_some, dayIn hd, asked_eq V A, Option.bind_some]
  cases h : (TT b).isEmpty with
  | true => rfl
  | false =>
    simp only [cond_false, bne_self_eq_false, Option.bind_some]
    rw [truths_eq _ (opn_op V A []), show ((0 : Nat), (0 : Int)) = ((0 : Nat), ((0 : Nat) : Int)) from rfl, foldY_wind d (by omega) _ 0 (by omega) (fun t ht => (truths_tru (opn_op V A []) ht).1.wi d hd)]
    rfl
theorem windSet_bit {d : Nat} : ∀ (L : List Coal_truth) (s k : Nat), (L.foldl (fun s t => s ||| 2 ^ windAt d t) s).testBit k = true ↔ s.testBit k = true ∨ ∃ t ∈ L, windAt d t = k
  | [], s, k => by simp
  | t :: L, s, k => by
    rw [List.foldl_cons, windSet_bit L, Nat.testBit_or, Nat.testBit_two_pow, Bool.or_eq_true, decide_eq_true_eq]
    simp only [List.mem_cons, exists_eq_or_imp, or_assoc]
/-! a heap that is higher -/
def shT (n : Int) (m : Nat) (t : Coal_truth) : Coal_truth := Coal_truth.mk t.eats_ t.collier_ t.winds_ ((List.range 6).map fun k => if k < m then t.coal_.getD k 0 + n else t.coal_.getD k 0)
end Go.Proofs.YticodohfokgjfaaDoor

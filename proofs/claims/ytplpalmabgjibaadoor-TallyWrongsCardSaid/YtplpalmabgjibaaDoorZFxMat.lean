/- Part of a logic of my own for walks: rules by which a proof steps through code, proved once. -/
import Derived.Test.YtplpalmabgjibaaDoorZFxEq
set_option linter.unusedSimpArgs false
set_option linter.unusedVariables false
namespace Go.Fx
open Go
/-! ### a slice of slices of numbers, all of it one's own -/
structure RowV where
  (A : Option Addr) (n c : Nat)
section
variable {ro : Option Nat} {P : Program} {full : Array Oper} {Q : Exit → Act → World → Prop} {n : Nat} {d : List Deferred} {e : Env} {w w0 : World} {C : Nat → Prop} {X L : List Asr}
variable {rest : List Oper} {ty : TypeId} {ps : String} {af : Array Edge}
/-- what a row's word says of its block -/
theorem row_block {t c : Nat} {A : Option Addr} {l : List Int} (h : (gr intE 1 t A c l).ok w) (hl : l ≠ []) : ∃ g cur, A = some ⟨g, 0, none⟩ ∧ w.heap[g]? = some (.cells cur t (0, 0)) ∧ l.length ≤ c ∧ c ≤ maxLen ∧ cur.size = c ∧ cur.toList.take l.length = l.flatMap intE := by
  rcases h.2 with ⟨q1, q2⟩ | ⟨g, cap, cur, q1, q2, q3, q4, q5, q6, q7⟩
  · exact absurd (List.eq_nil_of_length_eq_zero q2) hl
  · simp at q1
    obtain ⟨rfl, rfl⟩ := q1
    exact ⟨g, cur, rfl, q3, q4, q5, by simpa using q6, by simpa using q7⟩
theorem flat_set (l : List Int) (k : Nat) (x : Int) : (l.set k x).flatMap intE = (l.flatMap intE).set k (.int .i64 x) := by
  have : ∀ l : List Int, l.flatMap intE = l.map (Value.int .i64) := by
    intro l; induction l with
    | nil => rfl
    | cons y l ih => simp [List.flatMap_cons, ih, intE]
  rw [this, this, List.map_set]
/-- a number is written into a row -/
theorem row_store {t c g : Nat} {l : List Int} {k : Nat} {x : Int} (h : (gr intE 1 t (some ⟨g, 0, none⟩) c l).ok w) (hk : k < l.length) :
    ∃ cur, w.heap[g]? = some (.cells cur t (0, 0)) ∧ k < cur.size ∧ (gr intE 1 t (some ⟨g, 0, none⟩) c (l.set k x)).ok (setB w g (.cells (cur.setIfInBounds k (.int .i64 x)) t (0, 0))) := by
  have hl : l ≠ [] := by intro h; subst h; simp at hk
  obtain ⟨g', cur, h1, h2, h3, h4, h5, h6⟩ := row_block h hl
  cases h1
  refine ⟨cur, h2, by omega, ?_⟩
  have hb := (Array.getElem?_eq_some_iff.1 h2).1
  refine ⟨flat_len intE_len _, .inr ⟨g, c, cur.setIfInBounds k (.int .i64 x), by simp, Nat.zero_le _, by simp [setB, hb], by simpa using h3, h4, by simpa using h5, ?_⟩⟩
  rw [flat_set, ← h6]
  simp only [List.length_set, Nat.mul_one, Array.toList_setIfInBounds]
  rw [List.take_set]
end
end Go.Fx

/- Plain facts: the fewest measures that must be wrong, the first of those. -/
import Derived.Test.YticodohfokgjfaaDoorZPShift
set_option linter.unusedVariables false
set_option linter.unusedSimpArgs false
namespace Go.Proofs.YticodohfokgjfaaDoor
open Go Go.Fx
def Clm (l : List Int) (n : Int) : Prop := ∀ (k : Nat) (x : Int), l[k]? = some x → 0 ≤ x ∧ x < n ∧ ∀ y, 0 < k → l[k - 1]? = some y → y < x
theorem Clm.nil {n : Int} : Clm [] n := fun k x h => by simp at h
theorem Clm.lt {l : List Int} {n : Int} (h : Clm l n) : ∀ (d i : Nat) (x y : Int), l[i]? = some x → l[i + d + 1]? = some y → x < y := by
  intro d
  induction d with
  | zero => intro i x y hx hy; exact (h (i + 1) y hy).2.2 x (by omega) (by simpa using hx)
  | succ d ih =>
    intro i x y hx hy
    have hlt : i + d + 1 < l.length := by have := (List.getElem?_eq_some_iff.1 hy).1; omega
    have h1 := ih i x _ hx (List.getElem?_eq_getElem hlt)
    have h2 := (h (i + (d + 1) + 1) y hy).2.2 _ (by omega) (by rw [show i + (d + 1) + 1 - 1 = i + d + 1 by omega]; exact List.getElem?_eq_getElem hlt)
    omega
theorem Clm.len {l : List Int} {n : Int} (h : Clm l n) (h0 : 0 ≤ n) : (l.length : Int) ≤ n := by
  have : ∀ (k : Nat) (x : Int), l[k]? = some x → (k : Int) ≤ x := by
    intro k
    induction k with
    | zero => intro x hx; have := (h 0 x hx).1; omega
    | succ k ih =>
      intro x hx
      have hlt : k < l.length := by have := (List.getElem?_eq_some_iff.1 hx).1; omega
      have h1 := ih _ (List.getElem?_eq_getElem hlt)
      have h2 := h.lt 0 k _ x (List.getElem?_eq_getElem hlt) hx
      omega
  by_cases hl : l.length = 0
  · omega
  · have hlt : l.length - 1 < l.length := by omega
    have h1 := this _ _ (List.getElem?_eq_getElem hlt)
    have h2 := (h _ _ (List.getElem?_eq_getElem hlt)).2.1
    omega
/-- a book without some measures can be true -/
def CanO (b : CoalBook) (l : List Int) : Prop := truths (opn b l) ≠ []
/-- a list of places below n that climbs, so long, and begins so -/
structure Ext (n : Nat) (l : List Int) (many : Nat) (o : List Int) : Prop where
  len : o.length = many
  clm : Clm o n
  pre : ∀ (i : Nat) (x : Int), l[i]? = some x → o[i]? = some x
def LexLt (o w : List Int) : Prop := ∃ (i : Nat) (x y : Int), o[i]? = some x ∧ w[i]? = some y ∧ x < y ∧ ∀ j, j < i → o[j]? = w[j]?
theorem Ext.more {n many : Nat} {l o : List Int} {x : Int} (h : Ext n l many o) (hx : o[l.length]? = some x) : Ext n (l ++ [x]) many o := by
  refine ⟨h.len, h.clm, fun i y hy => ?_⟩
  by_cases hi : i < l.length
  · rw [List.getElem?_append_left hi] at hy; exact h.pre i y hy
  · rw [List.getElem?_append_right (by omega), List.getElem?_singleton] at hy
    split at hy
    · cases hy; rw [show i = l.length by omega]; exact hx
    · cases hy
theorem Ext.less {n many : Nat} {l o : List Int} {x : Int} (h : Ext n (l ++ [x]) many o) : Ext n l many o ∧ o[l.length]? = some x := by
  refine ⟨⟨h.len, h.clm, fun i y hy => h.pre i y ?_⟩, h.pre _ _ (by simp)⟩
  rw [List.getElem?_append_left (List.getElem?_eq_some_iff.1 hy).1]; exact hy
def allL (n : Nat) : List Int := (List.range n).map Int.ofNat
/-- the fewest that must be left out, the first of those -/
structure Few (b : CoalBook) (w : List Int) : Prop where
  clm : Clm w b.Dips.length
  can : CanO b w
  len : ∀ o, Clm o b.Dips.length → CanO b o → w.length ≤ o.length
  lex : ∀ o, Clm o b.Dips.length → CanO b o → o.length = w.length → ¬ LexLt o w
end Go.Proofs.YticodohfokgjfaaDoor

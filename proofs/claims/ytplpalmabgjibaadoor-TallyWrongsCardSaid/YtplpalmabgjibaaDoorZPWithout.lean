/- Plain facts: books without some of their counts, and lists that climb. -/
import Derived.Test.YtplpalmabgjibaaDoorZPAgain
set_option linter.unusedVariables false
set_option linter.unusedSimpArgs false
namespace Go.Proofs.YtplpalmabgjibaaDoor
open Go Go.Fx Go.Tally
/-- without the counts at the places that are listed -/
def outL (l : List Int) : TallyCount → Nat → Bool := fun _ i => decide ((i : Int) ∈ l)
def CanO (b : TallyBook) (l : List Int) : Prop := ∃ q, Fit b (outL l) q
theorem cntsQ_no {l : List TallyCount} {q : Nat → Int} : CntsQ l no q ↔ ∀ x ∈ l, CntQ x q := by
  unfold CntsQ no
  constructor
  · intro h x hx
    obtain ⟨i, hi, rfl⟩ := List.getElem_of_mem hx
    exact h i _ (List.getElem?_eq_getElem hi) rfl
  · intro h i x hx _; exact h x (List.mem_of_getElem? hx)
/-- a list that climbs, below n -/
def Clm (l : List Int) (n : Int) : Prop := ∀ (k : Nat) (x : Int), l[k]? = some x → 0 ≤ x ∧ x < n ∧ ∀ y, 0 < k → l[k - 1]? = some y → y < x
theorem Clm.nil {n : Int} : Clm [] n := fun k x h => by simp at h
theorem Clm.snoc {l : List Int} {n v : Int} (h : Clm l n) (h0 : 0 ≤ v) (h1 : v < n) (h2 : ∀ y, l.getLast? = some y → y < v) : Clm (l ++ [v]) n := by
  intro k x hx
  by_cases hk : k < l.length
  · rw [List.getElem?_append_left hk] at hx
    obtain ⟨a1, a2, a3⟩ := h k x hx
    refine ⟨a1, a2, fun y h0 hy => a3 y h0 ?_⟩
    rwa [List.getElem?_append_left (by omega)] at hy
  · rw [List.getElem?_append_right (by omega), List.getElem?_singleton] at hx
    split at hx
    · cases hx
      refine ⟨h0, h1, fun y hk0 hy => h2 y ?_⟩
      rw [List.getElem?_append_left (by omega)] at hy
      rw [List.getLast?_eq_getElem?, ← hy]
      congr 1; omega
    · cases hx
theorem Clm.lt {l : List Int} {n : Int} (h : Clm l n) : ∀ (d i : Nat) (x y : Int), l[i]? = some x → l[i + d + 1]? = some y → x < y := by
  intro d
  induction d with
  | zero => intro i x y hx hy; exact (h (i + 1) y hy).2.2 x (by omega) (by simpa using hx)
  | succ d ih =>
    intro i x y hx hy
    have hlt : i + d + 1 < l.length := by have := (List.getElem?_eq_some_iff.1 hy).1; omega
    have h1 := ih i x _ hx (List.getElem?_eq_getElem hlt)
    have h2 := (h (i + (d + 1) + 1) y hy).2.2 _ (by omega) (by rw [show i + (d + 1) + 1 - 1 = i + d + 1 by omega]; exact List.getElem?_eq_getElem hlt)
    omega
theorem Clm.len {l : List Int} {n : Int} (h : Clm l n) (h0 : 0 ≤ n) : (l.length : Int) ≤ n := by
  have : ∀ (k : Nat) (x : Int), l[k]? = some x → (k : Int) ≤ x := by
    intro k
    induction k with
    | zero => intro x hx; have := (h 0 x hx).1; omega
    | succ k ih =>
      intro x hx
      have hlt : k < l.length := by have := (List.getElem?_eq_some_iff.1 hx).1; omega
      have h1 := ih _ (List.getElem?_eq_getElem hlt)
      have h2 := h.lt 0 k _ x (List.getElem?_eq_getElem hlt) hx
      omega
  by_cases hl : l.length = 0
  · omega
  · have hlt : l.length - 1 < l.length := by omega
    have h1 := this _ _ (List.getElem?_eq_getElem hlt)
    have h2 := (h _ _ (List.getElem?_eq_getElem hlt)).2.1
    omega
end Go.Proofs.YtplpalmabgjibaaDoor

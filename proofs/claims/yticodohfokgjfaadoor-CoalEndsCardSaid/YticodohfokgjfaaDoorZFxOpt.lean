/- Part of a logic of my own for walks: rules by which a proof steps through code, proved once. -/
import Derived.Test.YticodohfokgjfaaDoorZFxMat
set_option linter.unusedSimpArgs false
set_option linter.unusedVariables false
namespace Go.Fx
open Go
/-! ### plain functions that may fail, and how what is known of them is taken apart -/
section
variable {α β γ : Type}
theorem bindS {x : Option α} {f : α → Option β} {r : β} (H : x.bind f = some r) : ∃ a, x = some a ∧ f a = some r := by
  cases x with
  | none => cases H
  | some a => exact ⟨a, rfl, H⟩
theorem condT {c : Bool} {a b : Option α} {r : α} (h : c = true) (H : (bif c then a else b) = some r) : a = some r := by subst h; exact H
theorem condF {c : Bool} {a b : Option α} {r : α} (h : c = false) (H : (bif c then a else b) = some r) : b = some r := by subst h; exact H
def need (b : Bool) (k : Option α) : Option α := bif b then k else none
theorem needS {b : Bool} {k : Option α} {r : α} (H : need b k = some r) : b = true ∧ k = some r := by
  cases b with
  | false => cases H
  | true => exact ⟨rfl, H⟩
theorem need_true {k : Option α} : need true k = k := rfl
theorem need_of {b : Bool} {k : Option α} (h : b = true) : need b k = k := by subst h; rfl
def getI (l : List α) (i : Int) : Option α := bif decide (0 ≤ i) then l[i.toNat]? else none
theorem getI_some {l : List α} {i : Int} {x : α} (h : getI l i = some x) : 0 ≤ i ∧ l[i.toNat]? = some x := by
  unfold getI at h
  by_cases hi : 0 ≤ i
  · simp only [hi, decide_true, cond_true] at h; exact ⟨hi, h⟩
  · simp only [hi, decide_false, cond_false] at h; cases h
theorem getI_nat {l : List α} {k : Nat} : getI l (k : Int) = l[k]? := by simp [getI]
def optC (o : Option α) (f : α → Option β) (g : Option β) : Option β := match o with | some v => f v | none => g
theorem optS {o : Option α} {f : α → Option β} {g : Option β} {v : α} {r : β} (h : o = some v) (H : optC o f g = some r) : f v = some r := by subst h; exact H
theorem optN {o : Option α} {f : α → Option β} {g : Option β} {r : β} (h : o = none) (H : optC o f g = some r) : g = some r := by subst h; exact H
/-- a loop: a body that may go on with another state -/
def loopF {σ ρ : Type} (body : (σ → Option ρ) → σ → Option ρ) : Nat → σ → Option ρ
  | 0, _ => none
  | n + 1, s => body (loopF body n) s
theorem loopS {σ ρ : Type} {body : (σ → Option ρ) → σ → Option ρ} {n : Nat} {s : σ} {r : ρ} (H : loopF body n s = some r) : ∃ m, n = m + 1 ∧ body (loopF body m) s = some r := by
  cases n with
  | zero => cases H
  | succ m => exact ⟨m, rfl, H⟩
/-- more rounds than any loop makes -/
def big : Nat := 2 ^ 64
end
/-- a number as Go's int holds it -/
abbrev wr (x : Int) : Int := IntKind.i64.wrap x
theorem wr_eq {x : Int} (h0 : -9223372036854775808 ≤ x) (h1 : x ≤ 9223372036854775807) : wr x = x := w64 h0 h1

/-! ### values and words, in short -/
abbrev I (x : Int) : Value := .int .i64 x
abbrev B (b : Bool) : Value := .bool b
abbrev P (b o : Nat) : Value := .pointer (some ⟨b, o, none⟩)
/-- an element's address, o cells behind a slice's first one -/
def offA (A : Option Addr) (o : Nat) : Option Addr := A.map fun a => ⟨a.block, a.off + o, none⟩
abbrev PE (A : Option Addr) (o : Nat) : Value := .pointer (offA A o)
abbrev SL (A : Option Addr) (n c : Nat) : Value := .slice A n c
abbrev AG (l : List Value) : Value := .agg l.toArray
abbrev TU (l : List Value) : Value := .tuple l.toArray
abbrev bl (b : Nat) (cs : List Value) (t : TypeId) : Asr := bx b (.cells cs.toArray t)
def nth : List Value → Nat → Option Value
  | [], _ => none
  | x :: _, 0 => some x
  | _ :: l, n + 1 => nth l n
theorem nth_eq : ∀ (l : List Value) (k : Nat), nth l k = l[k]?
  | [], _ => rfl
  | _ :: _, 0 => rfl
  | _ :: l, k + 1 => by simpa [nth] using nth_eq l k
/-- n numbers of an array, out of a list -/
def sgF (l : List Int) (k : Nat) : Nat → List Value
  | 0 => []
  | n + 1 => I (l.getD k 0) :: sgF l (k + 1) n
def sg (l : List Int) (n : Nat) : List Value := sgF l 0 n
theorem sgF_get (l : List Int) : ∀ (n k j : Nat), j < n → (sgF l k n)[j]? = some (I (l.getD (k + j) 0))
  | 0, _, _, h => by omega
  | n + 1, k, 0, _ => rfl
  | n + 1, k, j + 1, h => by
    have := sgF_get l n (k + 1) j (by omega)
    simp only [sgF, List.getElem?_cons_succ]
    rw [this, show k + 1 + j = k + (j + 1) by omega]
theorem sgF_len (l : List Int) : ∀ (n k : Nat), (sgF l k n).length = n
  | 0, _ => rfl
  | n + 1, k => by simp [sgF, sgF_len l n]
theorem sg_len (l : List Int) (n : Nat) : (sg l n).length = n := sgF_len l n 0
theorem sg_get (l : List Int) {n j : Nat} (h : j < n) : (sg l n)[j]? = some (I (l.getD j 0)) := by
  have := sgF_get l n 0 j h
  simpa [sg] using this
def asetI (l : List Int) (n : Nat) (i : Int) (x : Int) : Option (List Int) := bif decide (0 ≤ i) && decide (i < n) then some ((List.range n).map fun k => if k = i.toNat then x else l.getD k 0) else none
theorem asetI_some {l l' : List Int} {n : Nat} {i x : Int} (h : asetI l n i x = some l') : 0 ≤ i ∧ i.toNat < n ∧ l' = (List.range n).map fun k => if k = i.toNat then x else l.getD k 0 := by
  unfold asetI at h
  by_cases h1 : 0 ≤ i <;> by_cases h2 : i < n <;> simp only [h1, h2, decide_true, decide_false, Bool.and_true, Bool.and_false, Bool.and_self, cond_true, cond_false, reduceCtorEq, Option.some.injEq] at h
  exact ⟨h1, by omega, h.symm⟩
end Go.Fx

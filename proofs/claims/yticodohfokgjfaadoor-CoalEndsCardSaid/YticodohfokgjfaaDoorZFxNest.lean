/- Part of a logic of my own for walks: rules by which a proof steps through code, proved once. -/
import Derived.Test.YticodohfokgjfaaDoorZFxRes
import Derived.Test.YticodohfokgjfaaDoorZFxInv
set_option linter.unusedSimpArgs false
set_option linter.unusedVariables false
namespace Go.Fx
open Go
/-! ### slices whose elements bear slices: the plain elements xs, and hl: each with the addresses of what is in it -/
section
variable {α δ : Type}
/-- what the elements bear, only read -/
def ri (inner : α × δ → List Asr) (hl : List (α × δ)) (xs : List α) : Asr where
  fp b := ∃ h ∈ hl, ∃ q ∈ inner h, q.fp b
  ok w := hl.map Prod.fst = xs ∧ ∀ h ∈ hl, ∀ q ∈ inner h, q.ok w
  mono w w' h k := ⟨h.1, fun x hx q hq => q.mono _ _ (h.2 x hx q hq) fun b hb => k b ⟨x, hx, q, hq, hb⟩⟩
  inb w b h hb := by obtain ⟨x, hx, q, hq, hb⟩ := hb; exact q.inb _ _ (h.2 x hx q hq) hb
variable {inner : α × δ → List Asr} {hl hl' : List (α × δ)} {xs xs' : List α} {w0 w w' : World} {C : Nat → Prop} {X L : List Asr}
end

/-! ### rows of numbers that are one's own -/
abbrev RowH := List Int × Option Addr × Nat
def rowI (h : RowH) : List Asr := [rd intE 1 h.2.1 h.2.2 h.1]
def rowG (e : TypeId) (h : RowH) : Asr := gr intE 1 e h.2.1 h.2.2 h.1
/-- all rows, apart from each other -/
def rx' (e : TypeId) (hl : List RowH) (xs : List (List Int)) : Asr where
  fp b := ∃ h ∈ hl, (rowG e h).fp b
  ok w := hl.map Prod.fst = xs ∧ (∀ h ∈ hl, (rowG e h).ok w) ∧ hl.Pairwise fun p q => ∀ b, (rowG e p).fp b → ¬ (rowG e q).fp b
  mono w w' h k := ⟨h.1, fun p hp => (rowG e p).mono _ _ (h.2.1 p hp) fun b hb => k b ⟨p, hp, hb⟩, h.2.2⟩
  inb w b h hb := by obtain ⟨p, hp, hb⟩ := hb; exact (rowG e p).inb _ _ (h.2.1 p hp) hb
section
variable {w0 w w' : World} {C : Nat → Prop} {X L : List Asr} {t : TypeId} {hl : List RowH} {xs : List (List Int)}
theorem rx_fp : ∀ b, (ri rowI hl xs).fp b → (rx' t hl xs).fp b := fun b ⟨x, hx, q, hq, hb⟩ => ⟨x, hx, gr_fp b (by rw [show q = _ from List.mem_singleton.1 hq] at hb; exact hb)⟩
theorem New.rx {k : Nat} (h : New k (rx' t hl xs)) : New k (ri rowI hl xs) := fun b hb => h b (rx_fp b hb)
end
section
variable {ro : Option Nat} {P : Program} {full : Array Oper} {Q : Exit → Act → World → Prop} {n : Nat} {d : List Deferred} {e : Env} {w w0 : World} {C : Nat → Prop} {X L : List Asr}
variable {rest : List Oper} {ty : TypeId} {ps : String} {af : Array Edge}
end
end Go.Fx
namespace Go.Fx
end Go.Fx

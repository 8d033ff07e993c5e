/- Part of a logic of my own for walks: rules by which a proof steps through code, proved once. -/
import Derived.Test.YticodohfokgjfaaDoorZFxChain
set_option linter.unusedSimpArgs false
set_option linter.unusedVariables false
namespace Go.Fx
open Go
/-! ### regions whose order is open: what holds of each set of operations that have been -/
section
variable {ro : Option Nat} {P : Program} {n : Nat} {d : List Deferred} {w : World} {Q : Exit → Act → World → Prop}
/-- an operation ends here, and nowhere else -/
def Ends1 (K : Act → World → Prop) : Exit → Act → World → Prop
  | .normal, a, w' => K a w'
  | _, _, _ => False
/-! ### some operations of the head are a chain that works on memory which the region makes, or on blocks C -/
variable {C : Nat → Prop}
theorem Keep.any {C : Nat → Prop} {w w' : World} (k : Keep0 w w') : Keep C w w' := k.weak fun _ _ h => h.elim
/-- the rest of the chain, and the tail; what the chain changes it has made itself since the region's begin -/
def CK (ro : Option Nat) (P : Program) (full : Array Oper) (Q : Exit → Act → World → Prop) (n : Nat) (d : List Deferred) (C : Nat → Prop) (w : World) (tail : List Oper) : List Oper → Env → World → Prop
  | [], ec, w' => ∀ w3, Keep0 w' w3 → wpA ro P full Q tail (E n ec d) w3
  | o :: os, ec, w' => ∀ w3, Keep0 w' w3 → wpA ro P full (Ends1 fun a w2 => ∃ v, a = E n (updo ec o.dst v) d ∧ Keep C w w2 ∧ CK ro P full Q n d C w tail os (updo ec o.dst v) w2) [o] (E n ec d) w3
theorem CK.stays {full : Array Oper} {tail os : List Oper} {ec : Env} {w' w2 : World} (h : CK ro P full Q n d C w tail os ec w') (k : Keep0 w' w2) : CK ro P full Q n d C w tail os ec w2 := by
  cases os with
  | nil => exact fun w3 k3 => h w3 (k.trans k3)
  | cons o os => exact fun w3 k3 => h w3 (k.trans k3)
/-- those of the chain that have not been -/
def rem (l : List Oper) (m : Nat) (cs : List Nat) (S : Nat → Bool) : List Oper := ((List.range m).filter fun i => cs.contains i && !S i).filterMap (l[·]?)
end
end Go.Fx

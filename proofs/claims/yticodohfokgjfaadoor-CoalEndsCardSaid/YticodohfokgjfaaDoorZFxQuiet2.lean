/- Part of a logic of my own for walks: rules by which a proof steps through code, proved once. -/
import Derived.Test.YticodohfokgjfaaDoorZFxQuiet
set_option linter.unusedSimpArgs false
set_option linter.unusedVariables false
namespace Go.Fx
open Go
section
variable {ro : Option Nat} {P : Program} {full : Array Oper} {Q : Exit → Act → World → Prop} {n : Nat} {d : List Deferred} {e : Env} {w w0 : World} {C : Nat → Prop} {X L : List Asr}
variable {rest : List Oper} {ty : TypeId} {ps : String} {af : Array Edge}
/-- a call in a head -/
theorem p_cvD {i f : Nat} {g : Operand} {as : Array Operand} {ts : Array TypeId} {vs : List Value} {v : Value} (hc : Calls P f vs.toArray w (RetV w v)) (hF : funOf P f = true) (hv : argsOf n e g as = some (f, vs)) :
    wpA ro P full (Done n d e w (some i) (rv v)) [⟨some i, .call ⟨.value g, as, ts⟩, ty, ps, af, none⟩] (E n e d) w :=
  p_cal (R := fun u w2 => u = v ∧ Keep0 w w2) hc hF hv fun u w2 ⟨hu, hk⟩ => wp_nil ⟨u, rfl, hk, hu⟩
end
end Go.Fx

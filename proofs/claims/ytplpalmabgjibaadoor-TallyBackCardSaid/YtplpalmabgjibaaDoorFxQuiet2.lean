/- Part of a logic of my own for walks: rules by which a proof steps through code, proved once. -/
import Derived.Test.YtplpalmabgjibaaDoorFxQuiet
set_option linter.unusedSimpArgs false
set_option linter.unusedVariables false
namespace Go.Fx
open Go
section
variable {ro : Option Nat} {P : Program} {full : Array Oper} {Q : Exit → Act → World → Prop} {n : Nat} {d : List Deferred} {e : Env} {w w0 : World} {C : Nat → Prop} {X L : List Asr}
variable {rest : List Oper} {ty : TypeId} {ps : String} {af : Array Edge}
/-- a call in a head -/
theorem p_cvD {i f : Nat} {g : Operand} {as : Array Operand} {ts : Array TypeId} {vs : List Value} {v : Value} (hc : Calls P f vs.toArray w (RetV w v)) (hF : funOf P f = true) (hv : argsOf n e g as = some (f, vs)) :
    wpA ro P full (Done n d e w (some i) (rv v)) [⟨some i, .call ⟨.value g, as, ts⟩, ty, ps, af, none⟩] (E n e d) w :=
  p_cal (R := fun u w2 => u = v ∧ Keep0 w w2) hc hF hv fun u w2 ⟨hu, hk⟩ => wp_nil ⟨u, rfl, hk, hu⟩
/-- a store that comes behind a head whose last operation may be late -/
theorem x_st {t b i : Nat} {x y : Operand} {v u : Value} {ct : TypeId} (hs : sizOf P t = some 1) (S : St w0 C w X L) (hi : X[i]? = some (bl b [u] ct)) (hx : evn n e x = .pointer (some ⟨b, 0, none⟩)) (hy : evn n e y = v) (hc : v.cells.toList = [v]) (h1 : v.oneCell' = true)
    (h : ∀ w', St w0 C w' (X.set i (bl b [v] ct)) L → wpA ro P full Q rest (E n e d) w') : ∃ w1, (execOp (evn n e) ⟨none, .store t x y, ty, ps, af, none⟩).run P w = .ok .skip w1 ∧ wpA ro P full Q rest (E n e d) w1 := by
  have hr := run_storeCells (P := P) (off := 0) [v] 0 w #[u] (t := ct) (b := b) (S.at hi) (by simp [h1]) (by simp)
  have hsz : v.cells.size = 1 := by
    have := congrArg List.length hc
    simpa using this
  refine ⟨setB w b (.cells (putAt #[u] 0 [v]) ct (0, 0)), ?_, h _ ?_⟩
  · simp only [Nat.add_zero] at hr
    simp [execOp, Instr.storeAt, hx, hy, Instr.sureAddr, storeVar, run_sizeOf hs, hsz, hc, hr]
  · have := S.setB (o' := .cells #[v] ct) hi
    simpa [putAt] using this
theorem x_stP {t s b i o : Nat} {x y : Operand} {vs cs pre old post : List Value} {v : Value} {ct : TypeId} (hs : sizOf P t = some s) (S : St w0 C w X L) (hi : X[i]? = some (bl b cs ct)) (hcs : cs = pre ++ old ++ post) (hx : evn n e x = .pointer (some ⟨b, o, none⟩)) (ho : pre.length = o) (hy : evn n e y = v) (hc : v.cells.toList = vs) (hl : vs.length = s) (hl2 : old.length = s) (h1 : vs.all Value.oneCell' = true)
    (h : ∀ w', St w0 C w' (X.set i (bl b (pre ++ vs ++ post) ct)) L → wpA ro P full Q rest (E n e d) w') : ∃ w1, (execOp (evn n e) ⟨none, .store t x y, ty, ps, af, none⟩).run P w = .ok .skip w1 ∧ wpA ro P full Q rest (E n e d) w1 := by
  subst hcs ho
  have hr := run_storeCells (P := P) (off := pre.length) vs 0 w (pre ++ old ++ post).toArray (t := ct) (b := b) (S.at hi) h1 (by simp; omega)
  have hsz : v.cells.size = s := by
    have := congrArg List.length hc
    rw [hl] at this
    simpa using this
  rw [Nat.add_zero, putAt_toArray vs pre old post (by omega)] at hr
  refine ⟨setB w b (.cells (pre ++ vs ++ post).toArray ct (0, 0)), ?_, h _ (S.setB (o' := .cells (pre ++ vs ++ post).toArray ct) hi)⟩
  simp [execOp, Instr.storeAt, hx, hy, Instr.sureAddr, storeVar, run_sizeOf hs, hsz, hc, hr]
end
end Go.Fx

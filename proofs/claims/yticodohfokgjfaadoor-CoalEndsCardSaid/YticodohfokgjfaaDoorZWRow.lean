/- What every row of this seat needs: the two listed variables, a world for the witness, and how a book is read. -/
import Derived.Test.YticodohfokgjfaaDoorCards
import Derived.Test.YticodohfokgjfaaDoorTie
import Derived.Test.YticodohfokgjfaaDoorZWAll
import Derived.Test.YticodohfokgjfaaDoorZFxRow
set_option linter.unusedVariables false
namespace Go.Proofs.YticodohfokgjfaaDoor
open Go Go.Fx Go.Proofs Go.ChangeShapes Go.WideShapes Go.ChangeAt Go.RowKit
theorem own : ownKnob Tryd.prog.godebug = none := by kernel_rfl
theorem gAsks : Tryd.prog.globalNamed "prow/coal.asks" = some 0 := by kernel_rfl
theorem tAsks : (Tryd.prog.globals[0]?).map (·.type) = some 110 := by kernel_rfl
theorem gStill : Tryd.prog.globalNamed "prow/coal.still" = some 1 := by kernel_rfl
theorem tStill : (Tryd.prog.globals[1]?).map (·.type) = some 123 := by kernel_rfl
theorem laidOut : laidOutB Tryd.prog = true := by kernel_rfl
theorem u110 : Tryd.prog.underlying 110 = some (.array 2 109) := by kernel_rfl
theorem u109b : (match Tryd.prog.underlying 109 with | some (.func _ _ _) => true | _ => false) = true := by kernel_rfl
theorem u109 : ∃ ps rs va, Tryd.prog.underlying 109 = some (.func ps rs va) := by
  have h := u109b
  split at h
  · rename_i ps rs va hu; exact ⟨ps, rs, va, hu⟩
  · cases h
theorem u3 : Tryd.prog.underlying 3 = some (.int .i64) := by kernel_rfl
theorem c109 : Tryd.prog.cellsOf 109 = 1 := by kernel_rfl
theorem c110 : Tryd.prog.cellsOf 110 = 2 := by kernel_rfl
theorem c123 : Tryd.prog.cellsOf 123 = 2 := by kernel_rfl
theorem c3 : Tryd.prog.cellsOf 3 = 1 := by kernel_rfl
theorem u123 : ∃ f0 f1 : Field, Tryd.prog.underlying 123 = some (.struct #[f0, f1]) ∧ f0.type = 3 ∧ f1.type = 3 ∧ f0.offset = 0 ∧ f1.offset = 1 := ⟨(Tryd.prog.fieldsOf 123)[0]!, (Tryd.prog.fieldsOf 123)[1]!, by kernel_rfl, by kernel_rfl, by kernel_rfl, by kernel_rfl, by kernel_rfl⟩
def laidL : List (String × DataW Unit) := [("prow/coal.still", Rows.laid_prow_coal_still), ("prow/coal.asks", Rows.laid_prow_coal_asks)]
theorem var_heap {W : World} {n : String} {g : Nat} {cs c : Array Value} {t : TypeId} {fr : Nat × Nat} (hg : Tryd.prog.globalNamed n = some g) (hv : W.var? Tryd.prog n = some cs) (hh : W.heap[g]? = some (.cells c t fr)) : cs = c := by
  unfold World.var? at hv
  rw [hg] at hv
  simp only [Option.bind_some, hh] at hv
  exact (Option.some.inj hv).symm
theorem shape0 : ∃ zero, (((begin Tryd.prog (fun _ _ => 0) default).world.heap[0]?).bind Obj.row?) = some (zero, 110) := ⟨#[.nilFunc, .nilFunc], by kernel_rfl⟩
theorem shape1 : ∃ zero, (((begin Tryd.prog (fun _ _ => 0) default).world.heap[1]?).bind Obj.row?) = some (zero, 123) := ⟨#[I 0, I 0], by kernel_rfl⟩
set_option maxRecDepth 100000 in
theorem globals_ok {W : World} (hS : W.ShapedOpen Tryd.prog) (h : laidMetH Tryd.prog laidL W) : (bl 0 [Value.func (.func 128) #[] #[], Value.func (.func 129) #[] #[]] 110).ok W ∧ (bl 1 [I (-1), I (-1)] 123).ok W := by
  obtain ⟨z0, hz0⟩ := shape0
  obtain ⟨z1, hz1⟩ := shape1
  obtain ⟨cs0, h0, _⟩ := hS.1 0 z0 110 (of_decide_eq_true (by kernel_rfl)) hz0
  obtain ⟨cs1, h1, _⟩ := hS.1 1 z1 123 (of_decide_eq_true (by kernel_rfl)) hz1
  constructor
  · obtain ⟨g, t, cs, fuel, p, hg, ht, hv, hd⟩ := h.funcs (n := "prow/coal.asks") (List.mem_cons_of_mem _ (List.mem_cons_self ..))
    obtain rfl := Option.some.inj (gAsks.symm.trans hg)
    obtain rfl := Option.some.inj (tAsks.symm.trans ht)
    obtain rfl := var_heap gAsks hv h0
    obtain ⟨xs, m, _, hx, hl, hxs, hel⟩ := DataW.trod_array u110 hd
    rw [c110] at hl
    have hx' : xs.map (·.1) = [.held [40, 112, 114, 111, 119, 47, 99, 111, 97, 108, 46, 98, 111, 111, 107, 41, 46, 115, 111, 109, 101], .held [40, 112, 114, 111, 119, 47, 99, 111, 97, 108, 46, 98, 111, 111, 107, 41, 46, 101, 97, 99, 104]] := by
      have := congrArg Prod.fst hx
      exact (DataW.agg.inj this).symm
    obtain ⟨ps, rs, va, hu⟩ := u109
    obtain ⟨cl⟩ := cs
    match cl, hl with
    | [v0, v1], _ =>
      match xs, hx' with
      | [(_, p0), (_, p1)], hx' =>
        simp only [List.map_cons, List.map_nil, List.cons.injEq, and_true] at hx'
        obtain ⟨rfl, rfl⟩ := hx'
        have e0 := hel 0 (by decide)
        have e1 := hel 1 (by decide)
        rw [c109] at e0 e1
        obtain rfl := func_of_trod (f0 := 128) hu (by kernel_rfl) (show DataW.trod _ _ _ _ _ _ _ _ [v0] = some (_, p0) from e0)
        obtain rfl := func_of_trod (f0 := 129) hu (by kernel_rfl) (show DataW.trod _ _ _ _ _ _ _ _ [v1] = some (_, p1) from e1)
        exact h0
  · have h' : laidMet Tryd.prog [("prow/coal.still", Rows.laid_prow_coal_still)] W := h.1
    obtain ⟨ps, ⟨g, t, cs, fuel, p, q, hg, ht, hv, hd, _, _⟩, _⟩ := h'
    obtain rfl := Option.some.inj (gStill.symm.trans hg)
    obtain rfl := Option.some.inj (tStill.symm.trans ht)
    obtain rfl := var_heap gStill hv h1
    obtain ⟨f0, f1, hu, ht0, ht1, ho0, ho1⟩ := u123
    obtain ⟨xs, m, _, hx, hl, hxs, hel⟩ := DataW.trod_struct hu hd
    rw [c123] at hl
    have hx' : xs.map (·.1) = [.lit (.int .i64 (-1)), .lit (.int .i64 (-1))] := by
      have := congrArg Prod.fst hx
      exact (DataW.agg.inj this).symm
    obtain ⟨cl⟩ := cs
    match cl, hl with
    | [v0, v1], _ =>
      match xs, hx' with
      | [(_, p0), (_, p1)], hx' =>
        simp only [List.map_cons, List.map_nil, List.cons.injEq, and_true] at hx'
        obtain ⟨rfl, rfl⟩ := hx'
        have e0 := hel 0 f0 rfl
        have e1 := hel 1 f1 rfl
        rw [ho0, ht0, c3] at e0
        rw [ho1, ht1, c3] at e1
        obtain ⟨n0, a0, b0, _⟩ := DataW.trod_int u3 (show DataW.trod _ _ _ _ _ _ _ _ [v0] = some (_, p0) from e0)
        obtain ⟨n1, a1, b1, _⟩ := DataW.trod_int u3 (show DataW.trod _ _ _ _ _ _ _ _ [v1] = some (_, p1) from e1)
        cases a0; cases a1; cases b0; cases b1
        exact h1
def putCells (cs : Array Value) : Obj → Obj
  | .cells _ t frozen => .cells cs t frozen
  | o => o
/-- a world for the witness: both listed variables hold what the text lays -/
noncomputable def laidWorld (os : Os) : World :=
  { World.holding Tryd.prog os ⟨#[], #[], []⟩ with heap := ((World.holding Tryd.prog os ⟨#[], #[], []⟩).heap.modify 0 (putCells #[.func (.func 128) #[] #[], .func (.func 129) #[] #[]])).modify 1 (putCells #[I (-1), I (-1)]) }
end Go.Proofs.YticodohfokgjfaaDoor

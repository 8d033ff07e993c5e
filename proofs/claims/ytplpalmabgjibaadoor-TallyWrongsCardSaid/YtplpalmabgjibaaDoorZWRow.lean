/- What every row of this seat needs: the two listed variables, a world for the witness, and how a book is read. -/
import Derived.Test.YtplpalmabgjibaaDoorCards
import Derived.Test.YtplpalmabgjibaaDoorTie
import Derived.Test.YtplpalmabgjibaaDoorZWAll
import Derived.Test.YtplpalmabgjibaaDoorZFxRow
set_option linter.unusedVariables false
namespace Go.Proofs.YtplpalmabgjibaaDoor
open Go Go.Fx Go.Proofs Go.ChangeShapes Go.WideShapes Go.ChangeAt Go.RowKit
theorem own : ownKnob Tryd.prog.godebug = none := by kernel_rfl
theorem gEnds : Tryd.prog.globalNamed "prow/tally.ends" = some 0 := by kernel_rfl
theorem tEnds : (Tryd.prog.globals[0]?).map (·.type) = some 117 := by kernel_rfl
theorem gNothing : Tryd.prog.globalNamed "prow/tally.nothing" = some 1 := by kernel_rfl
theorem tNothing : (Tryd.prog.globals[1]?).map (·.type) = some 115 := by kernel_rfl
theorem laidOut : laidOutB Tryd.prog = true := by kernel_rfl
theorem u117 : Tryd.prog.underlying 117 = some (.array 2 116) := by kernel_rfl
theorem u116b : (match Tryd.prog.underlying 116 with | some (.func _ _ _) => true | _ => false) = true := by kernel_rfl
theorem u116 : ∃ ps rs va, Tryd.prog.underlying 116 = some (.func ps rs va) := by
  have h := u116b
  split at h
  · rename_i ps rs va hu; exact ⟨ps, rs, va, hu⟩
  · cases h
theorem u3 : Tryd.prog.underlying 3 = some (.int .i64) := by kernel_rfl
theorem c116 : Tryd.prog.cellsOf 116 = 1 := by kernel_rfl
theorem c117 : Tryd.prog.cellsOf 117 = 2 := by kernel_rfl
theorem c115 : Tryd.prog.cellsOf 115 = 2 := by kernel_rfl
theorem c3 : Tryd.prog.cellsOf 3 = 1 := by kernel_rfl
theorem u115 : ∃ f0 f1 : Field, Tryd.prog.underlying 115 = some (.struct #[f0, f1]) ∧ f0.type = 3 ∧ f1.type = 3 ∧ f0.offset = 0 ∧ f1.offset = 1 := ⟨(Tryd.prog.fieldsOf 115)[0]!, (Tryd.prog.fieldsOf 115)[1]!, by kernel_rfl, by kernel_rfl, by kernel_rfl, by kernel_rfl, by kernel_rfl⟩
def laidL : List (String × DataW Unit) := [("prow/tally.ends", Rows.laid_prow_tally_ends), ("prow/tally.nothing", Rows.laid_prow_tally_nothing)]
theorem var_heap {W : World} {n : String} {g : Nat} {cs c : Array Value} {t : TypeId} {fr : Nat × Nat} (hg : Tryd.prog.globalNamed n = some g) (hv : W.var? Tryd.prog n = some cs) (hh : W.heap[g]? = some (.cells c t fr)) : cs = c := by
  unfold World.var? at hv
  rw [hg] at hv
  simp only [Option.bind_some, hh] at hv
  exact (Option.some.inj hv).symm
theorem shape0 : ∃ zero, (((begin Tryd.prog (fun _ _ => 0) default).world.heap[0]?).bind Obj.row?) = some (zero, 117) := ⟨#[.nilFunc, .nilFunc], by kernel_rfl⟩
theorem shape1 : ∃ zero, (((begin Tryd.prog (fun _ _ => 0) default).world.heap[1]?).bind Obj.row?) = some (zero, 115) := ⟨#[I 0, I 0], by kernel_rfl⟩
set_option maxRecDepth 100000 in
theorem globals_ok {W : World} (hS : W.ShapedOpen Tryd.prog) (h : laidMetH Tryd.prog laidL W) : (bl 0 [Value.func (.func 117) #[] #[], Value.func (.func 119) #[] #[]] 117).ok W ∧ (bl 1 [I (-1), I (-1)] 115).ok W := by
  obtain ⟨z0, hz0⟩ := shape0
  obtain ⟨z1, hz1⟩ := shape1
  obtain ⟨cs0, h0, _⟩ := hS.1 0 z0 117 (of_decide_eq_true (by kernel_rfl)) hz0
  obtain ⟨cs1, h1, _⟩ := hS.1 1 z1 115 (of_decide_eq_true (by kernel_rfl)) hz1
  constructor
  · obtain ⟨g, t, cs, fuel, p, hg, ht, hv, hd⟩ := h.funcs (n := "prow/tally.ends") (List.mem_cons_self ..)
    obtain rfl := Option.some.inj (gEnds.symm.trans hg)
    obtain rfl := Option.some.inj (tEnds.symm.trans ht)
    obtain rfl := var_heap gEnds hv h0
    obtain ⟨xs, m, _, hx, hl, hxs, hel⟩ := DataW.trod_array u117 hd
    rw [c117] at hl
    have hx' : xs.map (·.1) = [.held [40, 112, 114, 111, 119, 47, 116, 97, 108, 108, 121, 46, 99, 111, 117, 110, 116, 41, 46, 108, 101, 97, 115, 116], .held [40, 112, 114, 111, 119, 47, 116, 97, 108, 108, 121, 46, 99, 111, 117, 110, 116, 41, 46, 109, 111, 115, 116]] := by
      have := congrArg Prod.fst hx
      exact (DataW.agg.inj this).symm
    obtain ⟨ps, rs, va, hu⟩ := u116
    obtain ⟨cl⟩ := cs
    match cl, hl with
    | [v0, v1], _ =>
      match xs, hx' with
      | [(_, p0), (_, p1)], hx' =>
        simp only [List.map_cons, List.map_nil, List.cons.injEq, and_true] at hx'
        obtain ⟨rfl, rfl⟩ := hx'
        have e0 := hel 0 (by decide)
        have e1 := hel 1 (by decide)
        rw [c116] at e0 e1
        obtain rfl := func_of_trod (f0 := 117) hu (by kernel_rfl) (show DataW.trod _ _ _ _ _ _ _ _ [v0] = some (_, p0) from e0)
        obtain rfl := func_of_trod (f0 := 119) hu (by kernel_rfl) (show DataW.trod _ _ _ _ _ _ _ _ [v1] = some (_, p1) from e1)
        exact h0
  · have h' : laidMet Tryd.prog [("prow/tally.nothing", Rows.laid_prow_tally_nothing)] W := h.1
    obtain ⟨ps, ⟨g, t, cs, fuel, p, q, hg, ht, hv, hd, _, _⟩, _⟩ := h'
    obtain rfl := Option.some.inj (gNothing.symm.trans hg)
    obtain rfl := Option.some.inj (tNothing.symm.trans ht)
    obtain rfl := var_heap gNothing hv h1
    obtain ⟨f0, f1, hu, ht0, ht1, ho0, ho1⟩ := u115
    obtain ⟨xs, m, _, hx, hl, hxs, hel⟩ := DataW.trod_struct hu hd
    rw [c115] at hl
    have hx' : xs.map (·.1) = [.lit (.int .i64 (-1)), .lit (.int .i64 (-1))] := by
      have := congrArg Prod.fst hx
      exact (DataW.agg.inj this).symm
    obtain ⟨cl⟩ := cs
    match cl, hl with
    | [v0, v1], _ =>
      match xs, hx' with
      | [(_, p0), (_, p1)], hx' =>
        simp only [List.map_cons, List.map_nil, List.cons.injEq, and_true] at hx'
        obtain ⟨rfl, rfl⟩ := hx'
        have e0 := hel 0 f0 rfl
        have e1 := hel 1 f1 rfl
        rw [ho0, ht0, c3] at e0
        rw [ho1, ht1, c3] at e1
        obtain ⟨n0, a0, b0, _⟩ := DataW.trod_int u3 (show DataW.trod _ _ _ _ _ _ _ _ [v0] = some (_, p0) from e0)
        obtain ⟨n1, a1, b1, _⟩ := DataW.trod_int u3 (show DataW.trod _ _ _ _ _ _ _ _ [v1] = some (_, p1) from e1)
        cases a0; cases a1; cases b0; cases b1
        exact h1
def putCells (cs : Array Value) : Obj → Obj
  | .cells _ t frozen => .cells cs t frozen
  | o => o
/-- a world for the witness: both listed variables hold what the text lays -/
noncomputable def laidWorld (os : Os) : World :=
  { World.holding Tryd.prog os ⟨#[], #[], []⟩ with heap := ((World.holding Tryd.prog os ⟨#[], #[], []⟩).heap.modify 0 (putCells #[.func (.func 117) #[] #[], .func (.func 119) #[] #[]])).modify 1 (putCells #[I (-1), I (-1)]) }
end Go.Proofs.YtplpalmabgjibaaDoor

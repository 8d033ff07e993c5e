/- Part of a logic of my own for walks: rules by which a proof steps through code, proved once. -/
import Derived.Test.YticodohfokgjfaaDoorZFxMem
import Derived.Laws.Tables
set_option linter.unusedSimpArgs false
set_option linter.unusedVariables false
namespace Go.Fx
open Go

/-! ### what is known of types -/
def aggOf (P : Program) (t : TypeId) : Option Bool := (P.underlying t).map fun | .struct _ | .array _ _ => true | _ => false
def infoOf (P : Program) (t : TypeId) : Option (Option Value × Nat × Nat) := (P.info? t).map fun i => (i.zero, i.size, i.bytes)
def sizOf (P : Program) (t : TypeId) : Option Nat := (P.info? t).map (·.size)
def fldOf (P : Program) (t : TypeId) (f : Nat) : Option Nat :=
  match P.underlying t with
  | some (.struct fs) => (fs[f]?).bind fun fl => (sizOf P fl.type).bind fun s => if s = 0 then none else some fl.offset
  | _ => none
def arrOf (P : Program) (t : TypeId) : Option (Nat × Nat) :=
  match P.underlying t with
  | some (.array n el) => (sizOf P el).map fun s => (n, s)
  | _ => none
def slcOf (P : Program) (t : TypeId) : Option (TypeId × Nat) :=
  match P.underlying t with
  | some (.slice el) => (sizOf P el).map fun s => (el, s)
  | _ => none
def strOf (P : Program) (t : TypeId) : Option (Array Value × Array (Nat × Nat)) :=
  match P.info? t, P.underlying t with
  | some it, some (.struct fields) =>
    match it.zero, fields.toList.mapM (fun f => (P.info? f.type).map fun i => (f.offset, i.size)) with
    | some z, some places => some (z.cells, places.toArray)
    | _, _ => none
  | _, _ => none
def funOf (P : Program) (f : Nat) : Bool := match P.funcs[f]? with | some fn => fn.body.isSome && !(fn.name == "runtime.NumGoroutine") | none => false

section
variable {ro : Option Nat} {P : Program} {full : Array Oper} {Q : Exit → Act → World → Prop} {n : Nat} {d : List Deferred} {e : Env} {w : World}
variable {rest : List Oper} {ty : TypeId} {ps : String} {af : Array Edge}

theorem run_und {t : TypeId} {D : TypeDesc} (h : P.underlying t = some D) : (underlying t).run P w = .ok D w := by
  simp [underlying, h]
theorem run_isAgg {t : TypeId} {a : Bool} (h : aggOf P t = some a) : (isAgg t).run P w = .ok a w := by
  unfold aggOf at h
  cases hu : P.underlying t with
  | none => simp [hu] at h
  | some D =>
    simp only [hu, Option.map_some, Option.some.injEq] at h
    simp only [isAgg, Sem.run_bind, run_und hu, Result.andThen]
    subst h
    cases D <;> rfl
theorem run_sizeOf {t : TypeId} {s : Nat} (h : sizOf P t = some s) : (sizeOf t).run P w = .ok s w := by
  unfold sizOf at h
  cases hu : P.info? t with
  | none => simp [hu] at h
  | some D =>
    simp only [hu, Option.map_some, Option.some.injEq] at h
    simp [sizeOf, typeInfo, hu, h]

theorem o_mov {x : Operand} {i : Nat} {v : Value} (hv : evn n e x = v) (h : wpA ro P full Q rest (E n (upd e i v) d) w) :
    wpA ro P full Q (⟨some i, .move x, ty, ps, af, none⟩ :: rest) (E n e d) w :=
  op_val (v := v) rfl (fun _ h => by cases h) (by simp [execOp, hv]) h
theorem o_asg {x : Operand} {i : Nat} {v : Value} (hv : evn n e x = v) (h : wpA ro P full Q rest (E n (upd e i v) d) w) :
    wpA ro P full Q (⟨some i, .assign x, ty, ps, af, none⟩ :: rest) (E n e d) w :=
  op_val (v := v) rfl (fun _ h => by cases h) (by simp [execOp, hv]) h

/-! integers -/
theorem o_add {x y : Operand} {i xt yt : Nat} {a b : Int} {r : Int} (hx : evn n e x = .int .i64 a) (hy : evn n e y = .int .i64 b) (hr : IntKind.i64.wrap (a + b) = r)
    (h : wpA ro P full Q rest (E n (upd e i (.int .i64 r)) d) w) : wpA ro P full Q (⟨some i, .binOp .add xt x y yt, ty, ps, af, none⟩ :: rest) (E n e d) w :=
  op_val (v := .int .i64 r) rfl (fun _ h => by cases h) (by simp [execOp, hx, hy, eqGuard, binOp, Op.intArith, hr]) h
theorem o_sub {x y : Operand} {i xt yt : Nat} {a b : Int} {r : Int} (hx : evn n e x = .int .i64 a) (hy : evn n e y = .int .i64 b) (hr : IntKind.i64.wrap (a - b) = r)
    (h : wpA ro P full Q rest (E n (upd e i (.int .i64 r)) d) w) : wpA ro P full Q (⟨some i, .binOp .sub xt x y yt, ty, ps, af, none⟩ :: rest) (E n e d) w :=
  op_val (v := .int .i64 r) rfl (fun _ h => by cases h) (by simp [execOp, hx, hy, eqGuard, binOp, Op.intArith, hr]) h
theorem o_mul {x y : Operand} {i xt yt : Nat} {a b : Int} {r : Int} (hx : evn n e x = .int .i64 a) (hy : evn n e y = .int .i64 b) (hr : IntKind.i64.wrap (a * b) = r)
    (h : wpA ro P full Q rest (E n (upd e i (.int .i64 r)) d) w) : wpA ro P full Q (⟨some i, .binOp .mul xt x y yt, ty, ps, af, none⟩ :: rest) (E n e d) w :=
  op_val (v := .int .i64 r) rfl (fun _ h => by cases h) (by simp [execOp, hx, hy, eqGuard, binOp, Op.intArith, hr]) h
theorem o_neg {x : Operand} {i xt : Nat} {a r : Int} (hx : evn n e x = .int .i64 a) (hr : IntKind.i64.wrap (-a) = r)
    (h : wpA ro P full Q rest (E n (upd e i (.int .i64 r)) d) w) : wpA ro P full Q (⟨some i, .unOp .neg xt x, ty, ps, af, none⟩ :: rest) (E n e d) w :=
  op_val (v := .int .i64 r) rfl (fun _ h => by cases h) (by simp only [execOp, hx, Op.unary, Op.intArith]; simp [hr]) h
def cmpI : BinOp → Int → Int → Option Bool
  | .eql, a, b => some (a == b)
  | .neq, a, b => some (a != b)
  | .lss, a, b => some (decide (a < b))
  | .leq, a, b => some (decide (a ≤ b))
  | .gtr, a, b => some (decide (a > b))
  | .geq, a, b => some (decide (a ≥ b))
  | _, _, _ => none
theorem o_cmp {op : BinOp} {x y : Operand} {i xt yt : Nat} {k : IntKind} {a b : Int} {r : Bool} (hx : evn n e x = .int k a) (hy : evn n e y = .int k b) (hr : cmpI op a b = some r)
    (h : wpA ro P full Q rest (E n (upd e i (.bool r)) d) w) : wpA ro P full Q (⟨some i, .binOp op xt x y yt, ty, ps, af, none⟩ :: rest) (E n e d) w := by
  refine op_val (v := .bool r) rfl (fun _ h => by cases h) ?_ h
  cases op <;> simp only [cmpI, reduceCtorEq, Option.some.injEq] at hr <;> subst hr <;> simp [execOp, hx, hy, eqGuard, binOp, Op.intCmp]
theorem o_not {x : Operand} {i xt : Nat} {b : Bool} (hx : evn n e x = .bool b)
    (h : wpA ro P full Q rest (E n (upd e i (.bool (!b))) d) w) : wpA ro P full Q (⟨some i, .unOp .not xt x, ty, ps, af, none⟩ :: rest) (E n e d) w :=
  op_val (v := .bool (!b)) rfl (fun _ h => by cases h) (by simp [execOp, hx, Op.unary]) h
theorem o_pick {c x y : Operand} {i : Nat} {b : Bool} {v : Value} (hc : evn n e c = .bool b) (hv : evn n e (bif b then x else y) = v)
    (h : wpA ro P full Q rest (E n (upd e i v) d) w) : wpA ro P full Q (⟨some i, .pick c x y, ty, ps, af, none⟩ :: rest) (E n e d) w := by
  refine op_val (v := v) rfl (fun _ h => by cases h) ?_ h
  cases b <;> simp_all [execOp, asBool]

theorem o_pickT {c x y : Operand} {i : Nat} {b : Bool} {v : Value} (hc : evn n e c = .bool b) (hb : b = true) (hv : evn n e x = v)
    (h : wpA ro P full Q rest (E n (upd e i v) d) w) : wpA ro P full Q (⟨some i, .pick c x y, ty, ps, af, none⟩ :: rest) (E n e d) w := by
  subst hb; exact o_pick hc hv h
theorem o_pickF {c x y : Operand} {i : Nat} {b : Bool} {v : Value} (hc : evn n e c = .bool b) (hb : b = false) (hv : evn n e y = v)
    (h : wpA ro P full Q rest (E n (upd e i v) d) w) : wpA ro P full Q (⟨some i, .pick c x y, ty, ps, af, none⟩ :: rest) (E n e d) w := by
  subst hb; exact o_pick hc hv h
/-! tuples, structs, functions -/
theorem o_ext {x : Operand} {i k : Nat} {vs : Array Value} {v : Value} (hx : evn n e x = .tuple vs) (hv : vs[k]? = some v)
    (h : wpA ro P full Q rest (E n (upd e i v) d) w) : wpA ro P full Q (⟨some i, .extract x k, ty, ps, af, none⟩ :: rest) (E n e d) w :=
  op_val (v := v) rfl (fun _ h => by cases h) (by simp [execOp, hx, Instr.extract, hv]) h
theorem o_build {t i : Nat} {parts : Array (Nat × Operand)} {vals : List (Nat × Value)} {z : Array Value} {pl : Array (Nat × Nat)} {cs : Array Value} (hT : strOf P t = some (z, pl))
    (hv : parts.toList.map (fun (i, x) => (i, evn n e x)) = vals) (hf : Instr.fill (pl[·]?) z vals = some cs)
    (h : wpA ro P full Q rest (E n (upd e i (.agg cs)) d) w) : wpA ro P full Q (⟨some i, .build t parts, ty, ps, af, none⟩ :: rest) (E n e d) w := by
  refine op_val (v := .agg cs) rfl (fun _ h => by cases h) ?_ h
  have hb : P.built t vals = some cs := by
    unfold strOf at hT
    unfold Program.built
    split at hT
    · rename_i it fields h1 h2
      simp only [h1, h2]
      split at hT
      · rename_i z' places hz hp
        simp only [hz, hp]
        simp only [Option.some.injEq, Prod.mk.injEq] at hT
        obtain ⟨rfl, rfl⟩ := hT
        exact hf
      · cases hT
    · cases hT
  have hb' : P.built t (parts.map fun (i, x) => (i, evn n e x)).toList = some cs := by rw [Array.toList_map, hv]; exact hb
  simp [execOp, run_build (P := P) w t (parts.map fun (i, x) => (i, evn n e x)) cs hb']
theorem o_fun {fn : Fn} {fi ca : Array Operand} {i : Nat} {f1 c1 : List Value} (h1 : fi.toList.map (evn n e) = f1) (h2 : ca.toList.map (evn n e) = c1)
    (h : wpA ro P full Q rest (E n (upd e i (.func fn f1.toArray c1.toArray)) d) w) : wpA ro P full Q (⟨some i, .makeFunc fn fi ca, ty, ps, af, none⟩ :: rest) (E n e d) w :=
  op_val (v := .func fn f1.toArray c1.toArray) rfl (fun _ h => by cases h) (by
    have k1 : fi.map (evn n e) = f1.toArray := by rw [← h1]; exact Array.ext' (by simp)
    have k2 : ca.map (evn n e) = c1.toArray := by rw [← h2]; exact Array.ext' (by simp)
    simp [execOp, Instr.makeFunc, k1, k2]) h

/-! memory -/
variable {w0 : World} {C : Nat → Prop} {X L : List Asr}
theorem o_box {t i : Nat} {x : Operand} {v : Value} {cs : Array Value} (hv : evn n e x = v) (hc : v.cells = cs) (S : St w0 C w X L)
    (h : ∀ b w', b = w.heap.size → St w0 C w' (bx b (.cells cs t) :: X) L → wpA ro P full Q rest (E n (upd e i (.pointer (some ⟨b, 0, none⟩))) d) w') :
    wpA ro P full Q (⟨some i, .box t x, ty, ps, af, none⟩ :: rest) (E n e d) w :=
  op_val (v := .pointer (some ⟨w.heap.size, 0, none⟩)) (w' := w.alloc (.cells cs t)) rfl (fun _ h => by cases h)
    (by simp [execOp, Instr.box, newVar, newRow, hv, hc]) (h _ _ rfl (S.alloc _))
theorem o_alloc {t i : Nat} {z : Value} {cs : Array Value} {s b : Nat} (hT : infoOf P t = some (some z, s, b)) (hc : z.cells = cs) (S : St w0 C w X L)
    (h : ∀ b w', b = w.heap.size → St w0 C w' (bx b (.cells cs t) :: X) L → wpA ro P full Q rest (E n (upd e i (.pointer (some ⟨b, 0, none⟩))) d) w') :
    wpA ro P full Q (⟨some i, .alloc t, ty, ps, af, none⟩ :: rest) (E n e d) w := by
  refine op_val (v := .pointer (some ⟨w.heap.size, 0, none⟩)) (w' := w.alloc (.cells cs t)) rfl (fun _ h => by cases h) ?_ (h _ _ rfl (S.alloc _))
  unfold infoOf at hT
  cases hu : P.info? t with
  | none => simp [hu] at hT
  | some D =>
    simp only [hu, Option.map_some, Option.some.injEq, Prod.mk.injEq] at hT
    simp [execOp, Instr.alloc, zeroValue, typeInfo, hu, hT.1, newVar, newRow, hc]
theorem o_fld {s f i : Nat} {x : Operand} {b o k r : Nat} (hx : evn n e x = .pointer (some ⟨b, o, none⟩)) (hf : fldOf P s f = some k) (hr : o + k = r)
    (h : wpA ro P full Q rest (E n (upd e i (.pointer (some ⟨b, r, none⟩))) d) w) : wpA ro P full Q (⟨some i, .fieldAddr s x f, ty, ps, af, none⟩ :: rest) (E n e d) w := by
  refine op_val (v := .pointer (some ⟨b, r, none⟩)) rfl (fun _ h => by cases h) ?_ h
  subst hr
  unfold fldOf at hf
  split at hf
  · rename_i fs hu
    obtain ⟨fl, hfl, hf⟩ := Option.bind_eq_some_iff.1 hf
    obtain ⟨s', hs, hf⟩ := Option.bind_eq_some_iff.1 hf
    split at hf
    · cases hf
    · rename_i h0
      cases hf
      simp [execOp, Instr.fieldAt, run_und hu, hfl, hx, Instr.sureAddr, fieldPlace, run_sizeOf hs, h0, Addr.add]
  · cases hf
theorem o_ixA {t i : Nat} {x y : Operand} {b o len s : Nat} {k : IntKind} {j : Int} {r : Nat} (hx : evn n e x = .pointer (some ⟨b, o, none⟩)) (hy : evn n e y = .int k j) (hT : arrOf P t = some (len, s))
    (h0 : 0 ≤ j) (h1 : j < len) (hr : o + j.toNat * s = r)
    (h : wpA ro P full Q rest (E n (upd e i (.pointer (some ⟨b, r, none⟩))) d) w) : wpA ro P full Q (⟨some i, .indexAddr t x y, ty, ps, af, none⟩ :: rest) (E n e d) w := by
  refine op_val (v := .pointer (some ⟨b, r, none⟩)) rfl (fun _ h => by cases h) ?_ h
  subst hr
  unfold arrOf at hT
  split at hT
  · rename_i m el hu
    obtain ⟨s', hs, hT⟩ := Option.map_eq_some_iff.1 hT
    cases hT
    simp [execOp, Instr.indexAt, asIntOf, hx, hy, run_und hu, Instr.sureAddr, h0, h1, run_sizeOf hs, Addr.add]
  · cases hT
theorem o_ixS {t i : Nat} {x y : Operand} {b o len cp el s : Nat} {k : IntKind} {j : Int} {r : Nat} (hx : evn n e x = .slice (some ⟨b, o, none⟩) len cp) (hy : evn n e y = .int k j) (hT : slcOf P t = some (el, s))
    (h0 : 0 ≤ j) (h1 : j < len) (hr : o + j.toNat * s = r)
    (h : wpA ro P full Q rest (E n (upd e i (.pointer (some ⟨b, r, none⟩))) d) w) : wpA ro P full Q (⟨some i, .indexAddr t x y, ty, ps, af, none⟩ :: rest) (E n e d) w := by
  refine op_val (v := .pointer (some ⟨b, r, none⟩)) rfl (fun _ h => by cases h) ?_ h
  subst hr
  unfold slcOf at hT
  split at hT
  · rename_i el hu
    obtain ⟨s', hs, hT⟩ := Option.map_eq_some_iff.1 hT
    cases hT
    simp [execOp, Instr.indexAt, asIntOf, hx, hy, run_und hu, h0, h1, run_sizeOf hs, Addr.add]
  · cases hT
theorem cell_of {b : Nat} {c : Array Value} {t : TypeId} {z : Nat × Nat} (hB : w.heap[b]? = some (.cells c t z)) (o : Nat) : w.cell? ⟨b, o, none⟩ = c[o]? := by
  simp [World.cell?, hB]
/-- one cell is read -/
theorem o_ld1 {t i : Nat} {x : Operand} {b o : Nat} {v : Value} (hx : evn n e x = .pointer (some ⟨b, o, none⟩)) (hT : aggOf P t = some false) (hv : w.cell? ⟨b, o, none⟩ = some v)
    (h : wpA ro P full Q rest (E n (upd e i v) d) w) : wpA ro P full Q (⟨some i, .load t x, ty, ps, af, none⟩ :: rest) (E n e d) w :=
  op_val (v := v) rfl (fun _ h => by cases h) (by simp [execOp, Instr.loadAt, hx, Instr.sureAddr, loadVar, run_isAgg hT, hv]) h
/-- all cells of a variable are read -/
theorem o_ldN {t i s : Nat} {x : Operand} {b o : Nat} {cs : List Value} (hx : evn n e x = .pointer (some ⟨b, o, none⟩)) (hT : aggOf P t = some true) (hs : sizOf P t = some s) (hl : cs.length = s)
    (hv : ∀ j v, cs[j]? = some v → w.cell? ⟨b, o + j, none⟩ = some v)
    (h : wpA ro P full Q rest (E n (upd e i (.agg cs.toArray)) d) w) : wpA ro P full Q (⟨some i, .load t x, ty, ps, af, none⟩ :: rest) (E n e d) w := by
  refine op_val (v := .agg cs.toArray) rfl (fun _ h => by cases h) ?_ h
  subst hl
  have h1 : (loadCells ⟨b, o, none⟩ cs.length).run P w = .ok cs.toArray w := by
    refine run_loadCells_list (P := P) (w := w) ⟨b, o, none⟩ cs fun j v hj => ?_
    have := hv j v hj
    unfold Addr.add
    split
    · rename_i h0; subst h0; exact this
    · exact this
  simp [execOp, Instr.loadAt, hx, Instr.sureAddr, loadVar, run_isAgg hT, run_sizeOf hs, h1]
/-! stores -/
def putAt (c : Array Value) (o : Nat) : List Value → Array Value
  | [] => c
  | v :: vs => putAt (c.setIfInBounds o v) (o + 1) vs
theorem setB_setB (w : World) (b : Nat) (o o' : Obj) : setB (setB w b o) b o' = setB w b o' := by
  simp [setB]
theorem setB_self {w : World} {b : Nat} {o : Obj} (h : w.heap[b]? = some o) : setB w b o = w := by
  obtain ⟨hb, rfl⟩ := Array.getElem?_eq_some_iff.1 h
  unfold setB
  have : w.heap.setIfInBounds b w.heap[b] = w.heap := by
    refine Array.ext (by simp) fun j h1 h2 => ?_
    rw [Array.getElem_setIfInBounds]
    split
    · rename_i h; subst h; rfl
    · rfl
  rw [this]
theorem setCell_setB {w : World} {b o : Nat} {c : Array Value} {t : TypeId} {z : Nat × Nat} (h : w.heap[b]? = some (.cells c t z)) (v : Value) :
    w.setCell ⟨b, o, none⟩ v = setB w b (.cells (c.setIfInBounds o v) t z) := by
  obtain ⟨hb, hx⟩ := Array.getElem?_eq_some_iff.1 h
  unfold World.setCell setB
  congr 1
  refine Array.ext (by simp) fun j h1 h2 => ?_
  rw [Array.getElem_modify, Array.getElem_setIfInBounds]
  split
  · rename_i hj; subst hj; simp [hx]
  · rfl
theorem run_storeCells {b off : Nat} {t : TypeId} : ∀ (vs : List Value) (i : Nat) (w : World) (c : Array Value), w.heap[b]? = some (.cells c t (0, 0)) → vs.all Value.oneCell' = true → off + i + vs.length ≤ c.size →
    (storeCells ⟨b, off, none⟩ vs i).run P w = .ok () (setB w b (.cells (putAt c (off + i) vs) t (0, 0)))
  | [], i, w, c, h, _, _ => by simp [storeCells, putAt, setB_self h]
  | v :: vs, i, w, c, h, h1, h2 => by
    simp only [List.all_cons, Bool.and_eq_true] at h1
    simp only [List.length_cons] at h2
    have ha : (Addr.add ⟨b, off, none⟩ i) = ⟨b, off + i, none⟩ := by unfold Addr.add; split <;> simp_all
    have hlt : off + i < c.size := by omega
    have hc : w.cell? ⟨b, off + i, none⟩ = some c[off + i] := by rw [cell_of h]; simp [hlt]
    have hfz : w.frozen? ⟨b, off + i, none⟩ = false := by simp [World.frozen?, h]
    have hs : (store ⟨b, off + i, none⟩ v).run P w = .ok () (setB w b (.cells (c.setIfInBounds (off + i) v) t (0, 0))) := by
      rw [run_store P w _ v _ h1.1, hc]
      simp [hfz, setCell_setB h]
    obtain ⟨hb, _⟩ := Array.getElem?_eq_some_iff.1 h
    have hn : (setB w b (.cells (c.setIfInBounds (off + i) v) t (0, 0))).heap[b]? = some (.cells (c.setIfInBounds (off + i) v) t (0, 0)) := by simp [setB, hb]
    have ih := run_storeCells (off := off) vs (i + 1) _ _ hn h1.2 (by simp; omega)
    simp only [storeCells, Sem.run_bind, ha, hs, Result.andThen_ok, ih, setB_setB]
    rfl
theorem o_sto {t s b o i : Nat} {x y : Operand} {v : Value} {vs : List Value} {c c' : Array Value} {ct : TypeId} (hx : evn n e x = .pointer (some ⟨b, o, none⟩)) (hy : evn n e y = v) (hv : v.cells.toList = vs)
    (hs : sizOf P t = some s) (hl : vs.length = s) (h1 : vs.all Value.oneCell' = true) (S : St w0 C w X L) (hi : X[i]? = some (bx b (.cells c ct (0, 0)))) (hb : o + vs.length ≤ c.size) (hc : putAt c o vs = c')
    (h : ∀ w', St w0 C w' (X.set i (bx b (.cells c' ct (0, 0)))) L → wpA ro P full Q rest (E n e d) w') : wpA ro P full Q (⟨none, .store t x y, ty, ps, af, none⟩ :: rest) (E n e d) w := by
  subst hc
  refine op_skip (w' := setB w b (.cells (putAt c o vs) ct (0, 0))) rfl (fun _ h => by cases h) ?_ (h _ (S.setB hi))
  have hsz : v.cells.size = s := by rw [← hl, ← hv]; simp
  have := run_storeCells (P := P) (off := o) vs 0 w c (S.at hi) h1 (by simpa using hb)
  simp only [Nat.add_zero] at this
  simp [execOp, Instr.storeAt, hx, hy, Instr.sureAddr, storeVar, run_sizeOf hs, hsz, hv, this]

/-! calls -/
theorem run_invoke {f : Nat} {first caps args : Array Value} (hF : funOf P f = true) : ∀ w, (invoke (.fn (.func f) caps) (first ++ args)).run P w = .ok (.enter f (first ++ args ++ caps)) w := by
  intro w
  unfold funOf at hF
  cases hf : P.funcs[f]? with
  | none => simp [hf] at hF
  | some fn =>
    simp only [hf, Bool.and_eq_true, Bool.not_eq_true', beq_eq_false_iff_ne] at hF
    obtain ⟨h1, h2⟩ := hF
    cases hb : fn.body with
    | none => simp [hb] at h1
    | some c => simp [invoke, callFunc, hf, h2, hb]
theorem o_call {i f : Nat} {g : Operand} {as : Array Operand} {ts : Array TypeId} {first caps vs : Array Value} {args : List Value} (hg : evn n e g = .func (.func f) first caps) (ha : as.toList.map (evn n e) = args) (hF : funOf P f = true)
    (hv : first ++ args.toArray ++ caps = vs) {R : Value → World → Prop} (hc : Calls P f vs w fun en w2 => ∃ v, en = .returned v ∧ R v w2)
    (h : ∀ v w2, R v w2 → wpA ro P full Q rest (E n (upd e i v) d) w2) : wpA ro P full Q (⟨some i, .call ⟨.value g, as, ts⟩, ty, ps, af, none⟩ :: rest) (E n e d) w := by
  subst hv
  refine op_enter rfl (fun _ h => by cases h) (w' := w) (f := f) (args := first ++ args.toArray ++ caps) ?_ hc h
  have ha' : as.map (evn n e) = args.toArray := by rw [← ha]; exact Array.ext' (by simp)
  simp [execOp, resolve, hg, ha', Deferred.ofValue, run_invoke hF]
theorem o_len {i st : Nat} {x : Operand} {A : Option Addr} {len cp el s : Nat} (hx : evn n e x = .slice A len cp) (hT : slcOf P st = some (el, s))
    (h : wpA ro P full Q rest (E n (upd e i (.int .i64 (len : Int))) d) w) : wpA ro P full Q (⟨some i, .call ⟨.builtin .len, #[x], #[st]⟩, ty, ps, af, none⟩ :: rest) (E n e d) w := by
  refine op_val (v := .int .i64 (len : Int)) rfl (fun _ h => by cases h) ?_ h
  unfold slcOf at hT
  split at hT
  · rename_i el hu
    simp [execOp, resolve, hx, invoke, builtin, Builtin.len_, run_und hu, goInt]
  · cases hT
theorem o_min {i t1 t2 : Nat} {x y : Operand} {k : IntKind} {a b r : Int} (hx : evn n e x = .int k a) (hy : evn n e y = .int k b) (hr : (if b < a then b else a) = r)
    (h : wpA ro P full Q rest (E n (upd e i (.int k r)) d) w) : wpA ro P full Q (⟨some i, .call ⟨.builtin .min, #[x, y], #[t1, t2]⟩, ty, ps, af, none⟩ :: rest) (E n e d) w := by
  refine op_val (v := .int k r) rfl (fun _ h => by cases h) ?_ h
  simp [execOp, resolve, hx, hy, invoke, builtin, Builtin.min_, Builtin.min2, hr]
theorem o_max {i t1 t2 : Nat} {x y : Operand} {k : IntKind} {a b r : Int} (hx : evn n e x = .int k a) (hy : evn n e y = .int k b) (hr : (if b > a then b else a) = r)
    (h : wpA ro P full Q rest (E n (upd e i (.int k r)) d) w) : wpA ro P full Q (⟨some i, .call ⟨.builtin .max, #[x, y], #[t1, t2]⟩, ty, ps, af, none⟩ :: rest) (E n e d) w := by
  refine op_val (v := .int k r) rfl (fun _ h => by cases h) ?_ h
  simp [execOp, resolve, hx, hy, invoke, builtin, Builtin.max_, Builtin.max2, hr]

/-! guarded operations -/
theorem o_guard {dst : Option Nat} {op : Op} {j s : Nat} {want t : Bool} (hj : (full[j]?).bind (·.dst) = some s) (hs : evn n e (.tmp s) = .bool t)
    (ht : t = want → wpA ro P full Q (⟨dst, op, ty, ps, af, none⟩ :: rest) (E n e d) w) (hf : t = (!want) → wpA ro P full Q rest (E n (updo e dst undef) d) w) :
    wpA ro P full Q (⟨dst, op, ty, ps, af, some (j, want)⟩ :: rest) (E n e d) w := by
  have hsn : s < n := by
    rcases Nat.lt_or_ge s n with h | h
    · exact h
    · have : Nat.ble (s + 1) n = false := Bool.eq_false_iff.2 (by rw [ne_eq, Nat.ble_eq]; omega)
      simp [evn, this, undef] at hs
  have hev : e s = .bool t := by
    have : Nat.ble (s + 1) n = true := by rw [Nat.ble_eq]; exact hsn
    simpa [evn, this] using hs
  have hy : yielded full (E n e d).tmps j = some t := by
    simp [yielded, hj, E, hsn, hev]
  by_cases hw : t = want
  · have := ht hw
    unfold wpA at this ⊢
    rw [if_pos (by simp [Region.wanted])] at this
    rw [if_pos (by simp [Region.wanted, hy, hw])]
    exact this
  · have := hf (by cases t <;> cases want <;> simp_all)
    unfold wpA
    rw [if_neg (by simp [Region.wanted, hy, hw]), E_put]
    exact this
theorem o_guardU {dst : Option Nat} {op : Op} {j s : Nat} {want : Bool} (hj : (full[j]?).bind (·.dst) = some s) (hs : evn n e (.tmp s) = undef)
    (hf : wpA ro P full Q rest (E n (updo e dst undef) d) w) :
    wpA ro P full Q (⟨dst, op, ty, ps, af, some (j, want)⟩ :: rest) (E n e d) w := by
  have hy : yielded full (E n e d).tmps j = none := by
    by_cases hsn : s < n
    · have hev : e s = undef := by
        have : Nat.ble (s + 1) n = true := by rw [Nat.ble_eq]; exact hsn
        simpa [evn, this] using hs
      simp [yielded, hj, E, hsn, hev, undef]
    · simp [yielded, hj, E, hsn]
  unfold wpA
  rw [if_neg (by simp [Region.wanted, hy]), E_put]
  exact hf
end

/-! a function's contract out of its body -/
theorem fn_of {P : Program} {f : FuncId} {fn : Func} {c : Code} {args : Array Value} {w : World} {R : Ending → World → Prop} (hf : P.funcs[f]? = some fn) (hb : fn.body = some c) {n : Nat} (hn : fn.ntmps = n) (hs : args.size ≤ n)
    (h : c.wpIn (Fr none) 0 P (bodyPostM (Fr none) 0 P fn R) (E n (fun i => args.toList.getD i undef) []) w) : Calls P f args w R := by
  refine (callsIn_wide (n := 0)).1 (callsIn_of_wp_marks hf hb trivial ?_ rfl)
  subst hn
  rw [E_enter args _ hs]
  exact h
/-- one result: a slot, or a variable -/
def Rv (P : Program) (n : Nat) (e : Env) (w : World) : ResultVar → Value → Prop
  | .tmp t, v => evn n e (.tmp t) = v
  | .cell a t, v => ∃ b, evn n e (.tmp a) = .pointer (some ⟨b, 0, none⟩) ∧ (loadVar t ⟨b, 0, none⟩).run P w = .ok v w
theorem rvT {P : Program} {n : Nat} {e : Env} {w : World} {t : Nat} {v : Value} (h : evn n e (.tmp t) = v) : Rv P n e w (.tmp t) v := h
theorem rv1 {P : Program} {n : Nat} {e : Env} {w : World} {a t b : Nat} {v : Value} (hx : evn n e (.tmp a) = .pointer (some ⟨b, 0, none⟩)) (hT : aggOf P t = some false) (hv : w.cell? ⟨b, 0, none⟩ = some v) : Rv P n e w (.cell a t) v :=
  ⟨b, hx, by simp [loadVar, run_isAgg hT, hv]⟩
theorem rvN {P : Program} {n : Nat} {e : Env} {w : World} {a t b s : Nat} {cs : List Value} (hx : evn n e (.tmp a) = .pointer (some ⟨b, 0, none⟩)) (hT : aggOf P t = some true) (hs : sizOf P t = some s) (hl : cs.length = s)
    (hv : ∀ j v, cs[j]? = some v → w.cell? ⟨b, 0 + j, none⟩ = some v) : Rv P n e w (.cell a t) (.agg cs.toArray) := by
  refine ⟨b, hx, ?_⟩
  subst hl
  have h1 : (loadCells ⟨b, 0, none⟩ cs.length).run P w = .ok cs.toArray w := by
    refine run_loadCells_list (P := P) (w := w) ⟨b, 0, none⟩ cs fun j v hj => ?_
    have := hv j v hj
    unfold Addr.add
    split
    · rename_i h0; subst h0; exact this
    · exact this
  simp [loadVar, run_isAgg hT, run_sizeOf hs, h1]
def oneRes (tmps : Array Value) : ResultVar → Sem Value
  | .tmp t => pure (tmps.getD t undef)
  | .cell a t => do loadVar t (← asAddr (tmps.getD a undef))
theorem results_eq (fn : Func) (tmps : Array Value) : results fn tmps = (do let vs ← fn.results.mapM (oneRes tmps); pure (if h : vs.size = 1 then vs[0] else .tuple vs)) := by
  unfold results
  congr 1
theorem rv_run {P : Program} {n : Nat} {e : Env} {d : List Deferred} {w : World} {rv : ResultVar} {v : Value} (h : Rv P n e w rv v) : (oneRes (E n e d).tmps rv).run P w = .ok v w := by
  have hev : ∀ t, (E n e d).tmps.getD t undef = evn n e (.tmp t) := fun t => by
    have := congrFun (E_eval n e d) (.tmp t)
    exact this
  cases rv with
  | tmp t => simp only [oneRes, hev]; simp only [Rv] at h; simp [h]
  | cell a t =>
    obtain ⟨b, h1, h2⟩ := h
    simp only [oneRes, hev, h1]
    simp [asAddr, h2]
theorem res0 {P : Program} {fn : Func} {n : Nat} {e : Env} {d : List Deferred} {w : World} (hf : fn.results = #[]) : (results fn (E n e d).tmps).run P w = .ok (.tuple #[]) w := by
  simp [results, hf]
theorem res1 {P : Program} {fn : Func} {n : Nat} {e : Env} {d : List Deferred} {w : World} {r1 : ResultVar} {v1 : Value} (hf : fn.results = #[r1]) (h1 : Rv P n e w r1 v1) : (results fn (E n e d).tmps).run P w = .ok v1 w := by
  simp [results_eq, hf, Array.mapM_eq_mapM_toList, rv_run (d := d) h1]
theorem res2 {P : Program} {fn : Func} {n : Nat} {e : Env} {d : List Deferred} {w : World} {r1 r2 : ResultVar} {v1 v2 : Value} (hf : fn.results = #[r1, r2]) (h1 : Rv P n e w r1 v1) (h2 : Rv P n e w r2 v2) :
    (results fn (E n e d).tmps).run P w = .ok (.tuple #[v1, v2]) w := by
  simp [results_eq, hf, Array.mapM_eq_mapM_toList, rv_run (d := d) h1, rv_run (d := d) h2]
/-- it returns, no deferred call being left -/
theorem ret_of {P : Program} {fn : Func} {R : Ending → World → Prop} {n : Nat} {e : Env} {w : World} {v : Value} (hr : (results fn (E n e []).tmps).run P w = .ok v w) (h : R (.returned v) w) :
    bodyPostM (Fr none) 0 P fn R .ret (E n e []) w := ⟨v, hr, h⟩
theorem end_of {P : Program} {fn : Func} {R : Ending → World → Prop} {n : Nat} {e : Env} {w : World} {v : Value} (hr : (results fn (E n e []).tmps).run P w = .ok v w) (h : R (.returned v) w) :
    bodyPostM (Fr none) 0 P fn R .normal (E n e []) w := ⟨v, hr, h⟩
end Go.Fx

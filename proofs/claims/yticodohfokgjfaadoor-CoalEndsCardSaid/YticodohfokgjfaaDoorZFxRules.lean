/- Part of a logic of my own for walks: rules by which a proof steps through code, proved once. -/
import Derived.Test.YticodohfokgjfaaDoorZFxOpt
set_option linter.unusedSimpArgs false
set_option linter.unusedVariables false
namespace Go.Fx
open Go
/-- a call returns v, and what was there before stays -/
def RetV (w : World) (v : Value) : Ending → World → Prop := fun en w' => ∃ u, en = .returned u ∧ u = v ∧ Keep0 w w'
/-- a slice that is only read, with its capacity -/
def rd {α : Type} (enc : α → List Value) (s : Nat) (A : Option Addr) (c : Nat) (xs : List α) : Asr where
  fp := (sl enc s A xs).fp
  ok w := (sl enc s A xs).ok w ∧ xs.length ≤ c ∧ c ≤ maxLen
  mono w w' h k := ⟨(sl enc s A xs).mono w w' h.1 k, h.2⟩
  inb w b h hb := (sl enc s A xs).inb w b h.1 hb
theorem rd_nil {α : Type} {enc : α → List Value} {s c : Nat} {A : Option Addr} {w : World} (h : c ≤ maxLen) : (rd enc s A c []).ok w := ⟨sl_nil, Nat.zero_le _, h⟩
theorem gr_cmax {α : Type} {enc : α → List Value} {s e c : Nat} {A : Option Addr} {l : List α} {w : World} (h : (gr enc s e A c l).ok w) : c ≤ maxLen := by
  rcases h.2 with ⟨q1, q2⟩ | ⟨g, cap, cur, q1, q2, q3, q4, q5, _⟩
  · simp at q1; rw [q1.2.2]; exact Nat.zero_le _
  · simp at q1; rw [q1.2]; exact q5
theorem gr_rd {α : Type} {enc : α → List Value} {s e c : Nat} {A : Option Addr} {l : List α} {w : World} (he : ∀ x, (enc x).length = s) (h : (gr enc s e A c l).ok w) : (rd enc s A c l).ok w := ⟨gr_sl he h, gr_le h, gr_cmax h⟩
theorem maxLen_eq : maxLen = 9223372036854775807 := rfl
section
variable {ro : Option Nat} {P : Program} {full : Array Oper} {Q : Exit → Act → World → Prop} {n : Nat} {d : List Deferred} {e : Env} {w w0 : World} {C : Nat → Prop} {X L : List Asr}
variable {rest : List Oper} {ty : TypeId} {ps : String} {af : Array Edge}
/-! plain operations -/
theorem p_mov {x : Operand} {i : Nat} {v : Value} (hv : evn n e x = v) (h : wpA ro P full Q rest (E n (upd e i v) d) w) : wpA ro P full Q (⟨some i, .move x, ty, ps, af, none⟩ :: rest) (E n e d) w := o_mov hv h
theorem p_mI {x : Operand} {i : Nat} {k : IntKind} {v : Int} (hv : evn n e x = .int k v) (h : wpA ro P full Q rest (E n (upd e i (.int k v)) d) w) : wpA ro P full Q (⟨some i, .move x, ty, ps, af, none⟩ :: rest) (E n e d) w := o_mov hv h
theorem p_mB {x : Operand} {i : Nat} {v : Bool} (hv : evn n e x = .bool v) (h : wpA ro P full Q rest (E n (upd e i (.bool v)) d) w) : wpA ro P full Q (⟨some i, .move x, ty, ps, af, none⟩ :: rest) (E n e d) w := o_mov hv h
theorem p_mS {x : Operand} {i : Nat} {A : Option Addr} {l c : Nat} (hv : evn n e x = .slice A l c) (h : wpA ro P full Q rest (E n (upd e i (.slice A l c)) d) w) : wpA ro P full Q (⟨some i, .move x, ty, ps, af, none⟩ :: rest) (E n e d) w := o_mov hv h
theorem p_mT {x : Operand} {i : Nat} {v : Array Value} (hv : evn n e x = .tuple v) (h : wpA ro P full Q rest (E n (upd e i (.tuple v)) d) w) : wpA ro P full Q (⟨some i, .move x, ty, ps, af, none⟩ :: rest) (E n e d) w := o_mov hv h
theorem p_asg {x : Operand} {i : Nat} {v : Value} (hv : evn n e x = v) (h : wpA ro P full Q rest (E n (upd e i v) d) w) : wpA ro P full Q (⟨some i, .assign x, ty, ps, af, none⟩ :: rest) (E n e d) w := o_asg hv h
theorem p_aI {x : Operand} {i : Nat} {k : IntKind} {v : Int} (hv : evn n e x = .int k v) (h : wpA ro P full Q rest (E n (upd e i (.int k v)) d) w) : wpA ro P full Q (⟨some i, .assign x, ty, ps, af, none⟩ :: rest) (E n e d) w := o_asg hv h
theorem p_aB {x : Operand} {i : Nat} {v : Bool} (hv : evn n e x = .bool v) (h : wpA ro P full Q rest (E n (upd e i (.bool v)) d) w) : wpA ro P full Q (⟨some i, .assign x, ty, ps, af, none⟩ :: rest) (E n e d) w := o_asg hv h
theorem p_aS {x : Operand} {i : Nat} {A : Option Addr} {l c : Nat} (hv : evn n e x = .slice A l c) (h : wpA ro P full Q rest (E n (upd e i (.slice A l c)) d) w) : wpA ro P full Q (⟨some i, .assign x, ty, ps, af, none⟩ :: rest) (E n e d) w := o_asg hv h
/-- integer arithmetic, as Go's int holds it -/
theorem p_add {x y : Operand} {i xt yt : Nat} {a b : Int} (hx : evn n e x = .int .i64 a) (hy : evn n e y = .int .i64 b) (h : wpA ro P full Q rest (E n (upd e i (I (wr (a + b)))) d) w) : wpA ro P full Q (⟨some i, .binOp .add xt x y yt, ty, ps, af, none⟩ :: rest) (E n e d) w := o_add hx hy rfl h
theorem p_sub {x y : Operand} {i xt yt : Nat} {a b : Int} (hx : evn n e x = .int .i64 a) (hy : evn n e y = .int .i64 b) (h : wpA ro P full Q rest (E n (upd e i (I (wr (a - b)))) d) w) : wpA ro P full Q (⟨some i, .binOp .sub xt x y yt, ty, ps, af, none⟩ :: rest) (E n e d) w := o_sub hx hy rfl h
theorem p_mul {x y : Operand} {i xt yt : Nat} {a b : Int} (hx : evn n e x = .int .i64 a) (hy : evn n e y = .int .i64 b) (h : wpA ro P full Q rest (E n (upd e i (I (wr (a * b)))) d) w) : wpA ro P full Q (⟨some i, .binOp .mul xt x y yt, ty, ps, af, none⟩ :: rest) (E n e d) w := o_mul hx hy rfl h
theorem p_neg {x : Operand} {i xt : Nat} {a : Int} (hx : evn n e x = .int .i64 a) (h : wpA ro P full Q rest (E n (upd e i (I (wr (-a)))) d) w) : wpA ro P full Q (⟨some i, .unOp .neg xt x, ty, ps, af, none⟩ :: rest) (E n e d) w := o_neg hx rfl h
theorem p_cmp {op : BinOp} {x y : Operand} {i xt yt : Nat} {k : IntKind} {a b : Int} {r : Bool} (hx : evn n e x = .int k a) (hy : evn n e y = .int k b) (hr : cmpI op a b = some r)
    (h : wpA ro P full Q rest (E n (upd e i (.bool r)) d) w) : wpA ro P full Q (⟨some i, .binOp op xt x y yt, ty, ps, af, none⟩ :: rest) (E n e d) w := o_cmp hx hy hr h
theorem p_not {x : Operand} {i xt : Nat} {b : Bool} (hx : evn n e x = .bool b) (h : wpA ro P full Q rest (E n (upd e i (.bool (!b))) d) w) : wpA ro P full Q (⟨some i, .unOp .not xt x, ty, ps, af, none⟩ :: rest) (E n e d) w := o_not hx h
theorem p_pkT {c x y : Operand} {i : Nat} {v : Value} (hc : evn n e c = .bool true) (hv : evn n e x = v) (h : wpA ro P full Q rest (E n (upd e i v) d) w) : wpA ro P full Q (⟨some i, .pick c x y, ty, ps, af, none⟩ :: rest) (E n e d) w := o_pickT hc rfl hv h
theorem p_pkF {c x y : Operand} {i : Nat} {v : Value} (hc : evn n e c = .bool false) (hv : evn n e y = v) (h : wpA ro P full Q rest (E n (upd e i v) d) w) : wpA ro P full Q (⟨some i, .pick c x y, ty, ps, af, none⟩ :: rest) (E n e d) w := o_pickF hc rfl hv h
theorem p_ext {x : Operand} {i k : Nat} {vs : List Value} {v : Value} (hx : evn n e x = .tuple vs.toArray) (hv : nth vs k = some v) (h : wpA ro P full Q rest (E n (upd e i v) d) w) : wpA ro P full Q (⟨some i, .extract x k, ty, ps, af, none⟩ :: rest) (E n e d) w :=
  o_ext hx (by rw [nth_eq] at hv; simpa using hv) h
theorem p_bld {t i : Nat} {parts : Array (Nat × Operand)} {vals : List (Nat × Value)} {z cs : List Value} {pl : Array (Nat × Nat)} (hT : strOf P t = some (z.toArray, pl))
    (hv : parts.toList.map (fun (i, x) => (i, evn n e x)) = vals) (hf : Instr.fill (pl[·]?) z.toArray vals = some cs.toArray) (h : wpA ro P full Q rest (E n (upd e i (AG cs)) d) w) : wpA ro P full Q (⟨some i, .build t parts, ty, ps, af, none⟩ :: rest) (E n e d) w := o_build hT hv hf h
theorem p_len {i st : Nat} {x : Operand} {A : Option Addr} {len cp el s : Nat} (hx : evn n e x = .slice A len cp) (hT : slcOf P st = some (el, s)) (h : wpA ro P full Q rest (E n (upd e i (I (len : Int))) d) w) : wpA ro P full Q (⟨some i, .call ⟨.builtin .len, #[x], #[st]⟩, ty, ps, af, none⟩ :: rest) (E n e d) w := o_len hx hT h
theorem p_min {i t1 t2 : Nat} {x y : Operand} {k : IntKind} {a b : Int} (hx : evn n e x = .int k a) (hy : evn n e y = .int k b) (h : wpA ro P full Q rest (E n (upd e i (.int k (if b < a then b else a))) d) w) : wpA ro P full Q (⟨some i, .call ⟨.builtin .min, #[x, y], #[t1, t2]⟩, ty, ps, af, none⟩ :: rest) (E n e d) w := o_min hx hy rfl h
theorem p_max {i t1 t2 : Nat} {x y : Operand} {k : IntKind} {a b : Int} (hx : evn n e x = .int k a) (hy : evn n e y = .int k b) (h : wpA ro P full Q rest (E n (upd e i (.int k (if b > a then b else a))) d) w) : wpA ro P full Q (⟨some i, .call ⟨.builtin .max, #[x, y], #[t1, t2]⟩, ty, ps, af, none⟩ :: rest) (E n e d) w := o_max hx hy rfl h
/-! addresses -/
theorem p_fld {s f i : Nat} {x : Operand} {b o k : Nat} (hf : fldOf P s f = some k) (hx : evn n e x = .pointer (some ⟨b, o, none⟩)) (h : wpA ro P full Q rest (E n (upd e i (Fx.P b (o + k))) d) w) : wpA ro P full Q (⟨some i, .fieldAddr s x f, ty, ps, af, none⟩ :: rest) (E n e d) w := o_fld hx hf rfl h
theorem p_ixc {t i : Nat} {x y : Operand} {b o len s : Nat} {k : IntKind} {j : Int} (hT : arrOf P t = some (len, s)) (hx : evn n e x = .pointer (some ⟨b, o, none⟩)) (hy : evn n e y = .int k j)
    (h0 : 0 ≤ j) (h1 : j < len) (h : wpA ro P full Q rest (E n (upd e i (Fx.P b (o + j.toNat * s))) d) w) : wpA ro P full Q (⟨some i, .indexAddr t x y, ty, ps, af, none⟩ :: rest) (E n e d) w := o_ixA hx hy hT h0 h1 rfl h
/-- an element of a slice -/
theorem p_ixE {α : Type} {enc : α → List Value} {s t i el len cp : Nat} {x y : Operand} {A : Option Addr} {k : IntKind} {j : Int} {l : List α} {z : α} (hT : slcOf P t = some (el, s)) (hg : getI l j = some z) (hw : (sl enc s A l).ok w) (hn : len = l.length)
    (hx : evn n e x = .slice A len cp) (hy : evn n e y = .int k j) (h : wpA ro P full Q rest (E n (upd e i (PE A (j.toNat * s + 0))) d) w) : wpA ro P full Q (⟨some i, .indexAddr t x y, ty, ps, af, none⟩ :: rest) (E n e d) w := by
  obtain ⟨h0, hz⟩ := getI_some hg
  obtain ⟨b, o, rfl, _⟩ := sl_at hw hz
  have hlt := (List.getElem?_eq_some_iff.1 hz).1
  exact o_ixS hx hy hT h0 (by omega) rfl h
theorem p_fldE {s f i : Nat} {x : Operand} {A : Option Addr} {o k : Nat} (hf : fldOf P s f = some k) (ha : ∃ b q, A = some ⟨b, q, none⟩) (hx : evn n e x = PE A o) (h : wpA ro P full Q rest (E n (upd e i (PE A (o + k))) d) w) : wpA ro P full Q (⟨some i, .fieldAddr s x f, ty, ps, af, none⟩ :: rest) (E n e d) w := by
  obtain ⟨b, q, rfl⟩ := ha
  exact o_fld (by rw [hx]; rfl) hf rfl (by simpa [PE, offA, Nat.add_assoc] using h)
theorem sl_here {α : Type} {enc : α → List Value} {s : Nat} {A : Option Addr} {l : List α} {j : Int} {z : α} (hw : (sl enc s A l).ok w) (hg : getI l j = some z) : ∃ b q, A = some ⟨b, q, none⟩ := by
  obtain ⟨b, o, h, _⟩ := sl_at hw (getI_some hg).2
  exact ⟨b, o, h⟩
/-- a cell of an element -/
theorem p_ldE {α : Type} {enc : α → List Value} {s t i o : Nat} {x : Operand} {A : Option Addr} {j : Int} {l : List α} {z : α} {v : Value} (hT : aggOf P t = some false) (hg : getI l j = some z) (hw : (sl enc s A l).ok w) (hx : evn n e x = PE A (j.toNat * s + o)) (hv : nth (enc z) o = some v)
    (h : wpA ro P full Q rest (E n (upd e i v) d) w) : wpA ro P full Q (⟨some i, .load t x, ty, ps, af, none⟩ :: rest) (E n e d) w := by
  obtain ⟨h0, hz⟩ := getI_some hg
  obtain ⟨b, q, rfl, hc⟩ := sl_at hw hz
  refine o_ld1 (b := b) (o := q + (j.toNat * s + o)) (by rw [hx]; rfl) hT ?_ h
  rw [← Nat.add_assoc]
  exact hc o v (by rw [← nth_eq]; exact hv)
/-- a whole element -/
theorem p_ldEA {α : Type} {enc : α → List Value} {s t i : Nat} {x : Operand} {A : Option Addr} {j : Int} {l : List α} {z : α} (hT : aggOf P t = some true) (hs : sizOf P t = some s) (hl : (enc z).length = s) (hg : getI l j = some z) (hw : (sl enc s A l).ok w) (hx : evn n e x = PE A (j.toNat * s + 0))
    (h : wpA ro P full Q rest (E n (upd e i (AG (enc z))) d) w) : wpA ro P full Q (⟨some i, .load t x, ty, ps, af, none⟩ :: rest) (E n e d) w := by
  obtain ⟨h0, hz⟩ := getI_some hg
  obtain ⟨b, q, rfl, hc⟩ := sl_at hw hz
  refine o_ldN (b := b) (o := q + (j.toNat * s + 0)) (by rw [hx]; rfl) hT hs hl (fun k v hk => ?_) h
  rw [Nat.add_zero]
  exact hc k v hk
/-! variables -/
theorem p_ld {t i b o : Nat} {x : Operand} {cs : List Value} {ct : TypeId} {v : Value} (hT : aggOf P t = some false) (hw : w.heap[b]? = some (.cells cs.toArray ct)) (hx : evn n e x = .pointer (some ⟨b, o, none⟩)) (hv : nth cs o = some v)
    (h : wpA ro P full Q rest (E n (upd e i v) d) w) : wpA ro P full Q (⟨some i, .load t x, ty, ps, af, none⟩ :: rest) (E n e d) w :=
  o_ld1 hx hT ((cell_of hw o).trans (by rw [nth_eq] at hv; simpa using hv)) h
/-- one of an array's numbers -/
theorem p_ldS {t i b o k m : Nat} {x : Operand} {pre post : List Value} {l : List Int} {ct : TypeId} {cs : List Value} (hT : aggOf P t = some false) (hw : w.heap[b]? = some (.cells cs.toArray ct)) (hc : cs = pre ++ sg l m ++ post) (hx : evn n e x = .pointer (some ⟨b, o + k * 1, none⟩)) (ho : o = pre.length) (hk : k < m)
    (h : wpA ro P full Q rest (E n (upd e i (I (l.getD k 0))) d) w) : wpA ro P full Q (⟨some i, .load t x, ty, ps, af, none⟩ :: rest) (E n e d) w := by
  refine o_ld1 hx hT ((cell_of hw _).trans ?_) h
  subst hc ho
  rw [List.getElem?_toArray, List.append_assoc, List.getElem?_append_right (by omega), Nat.mul_one, Nat.add_sub_cancel_left, List.getElem?_append_left (by rw [sg_len]; exact hk), sg_get _ hk]
theorem p_ldA {t i s b : Nat} {x : Operand} {cs : List Value} {ct : TypeId} (hT : aggOf P t = some true) (hs : sizOf P t = some s) (hw : w.heap[b]? = some (.cells cs.toArray ct)) (hx : evn n e x = .pointer (some ⟨b, 0, none⟩)) (hl : cs.length = s)
    (h : wpA ro P full Q rest (E n (upd e i (AG cs)) d) w) : wpA ro P full Q (⟨some i, .load t x, ty, ps, af, none⟩ :: rest) (E n e d) w :=
  o_ldN hx hT hs hl (box_cells hw (by simp)) h
/-- some cells in a row -/
theorem p_ldP {t i s b o : Nat} {x : Operand} {cs vs : List Value} {ct : TypeId} (hT : aggOf P t = some true) (hs : sizOf P t = some s) (hw : w.heap[b]? = some (.cells cs.toArray ct)) (hx : evn n e x = .pointer (some ⟨b, o, none⟩)) (hl : vs.length = s) (hv : (cs.drop o).take s = vs)
    (h : wpA ro P full Q rest (E n (upd e i (AG vs)) d) w) : wpA ro P full Q (⟨some i, .load t x, ty, ps, af, none⟩ :: rest) (E n e d) w :=
  o_ldN hx hT hs hl (box_cells hw (by subst hl; simpa using hv)) h
theorem p_box {t i : Nat} {x : Operand} {v : Value} (hv : evn n e x = v) (hc : v.cells = #[v]) (S : St w0 C w X L) (h : ∀ b w', St w0 C w' (bl b [v] t :: X) L → wpA ro P full Q rest (E n (upd e i (Fx.P b 0)) d) w') : wpA ro P full Q (⟨some i, .box t x, ty, ps, af, none⟩ :: rest) (E n e d) w :=
  o_box hv hc S fun b w' _ S' => h b w' S'
theorem p_boxA {t i : Nat} {x : Operand} {cs : List Value} (hv : evn n e x = .agg cs.toArray) (S : St w0 C w X L) (h : ∀ b w', St w0 C w' (bl b cs t :: X) L → wpA ro P full Q rest (E n (upd e i (Fx.P b 0)) d) w') : wpA ro P full Q (⟨some i, .box t x, ty, ps, af, none⟩ :: rest) (E n e d) w :=
  o_box hv rfl S fun b w' _ S' => h b w' S'
theorem p_all {t i : Nat} {z : Value} {s bb : Nat} (hT : infoOf P t = some (some z, s, bb)) (hc : z.cells = #[z]) (S : St w0 C w X L) (h : ∀ b w', St w0 C w' (bl b [z] t :: X) L → wpA ro P full Q rest (E n (upd e i (Fx.P b 0)) d) w') : wpA ro P full Q (⟨some i, .alloc t, ty, ps, af, none⟩ :: rest) (E n e d) w :=
  o_alloc hT hc S fun b w' _ S' => h b w' S'
theorem p_allA {t i : Nat} {cs : List Value} {s bb : Nat} (hT : infoOf P t = some (some (.agg cs.toArray), s, bb)) (S : St w0 C w X L) (h : ∀ b w', St w0 C w' (bl b cs t :: X) L → wpA ro P full Q rest (E n (upd e i (Fx.P b 0)) d) w') : wpA ro P full Q (⟨some i, .alloc t, ty, ps, af, none⟩ :: rest) (E n e d) w :=
  o_alloc hT rfl S fun b w' _ S' => h b w' S'
theorem putAt_toArray : ∀ (vs pre old post : List Value), old.length = vs.length → putAt (pre ++ old ++ post).toArray pre.length vs = (pre ++ vs ++ post).toArray
  | [], pre, old, post, h => by simp at h; subst h; rfl
  | v :: vs, pre, [], post, h => by simp at h
  | v :: vs, pre, u :: old, post, h => by
    have ih := putAt_toArray vs (pre ++ [v]) old post (by simpa using h)
    simp only [List.length_append, List.length_cons, List.length_nil, Nat.zero_add, List.append_assoc, List.cons_append, List.nil_append] at ih ⊢
    rw [putAt, ← ih]
    congr 1
    simp
/-- a variable of one cell is written -/
theorem p_st {t b i : Nat} {x y : Operand} {v u : Value} {ct : TypeId} (hs : sizOf P t = some 1) (S : St w0 C w X L) (hi : X[i]? = some (bl b [u] ct)) (hx : evn n e x = .pointer (some ⟨b, 0, none⟩)) (hy : evn n e y = v) (hc : v.cells.toList = [v]) (h1 : v.oneCell' = true)
    (h : ∀ w', St w0 C w' (X.set i (bl b [v] ct)) L → wpA ro P full Q rest (E n e d) w') : wpA ro P full Q (⟨none, .store t x y, ty, ps, af, none⟩ :: rest) (E n e d) w :=
  o_sto hx hy hc hs rfl (by simp [h1]) S hi (by simp) (putAt_toArray [v] [] [u] [] rfl) h
/-- some cells of a variable are written -/
theorem p_stP {t s b i o : Nat} {x y : Operand} {vs cs pre old post : List Value} {v : Value} {ct : TypeId} (hs : sizOf P t = some s) (S : St w0 C w X L) (hi : X[i]? = some (bl b cs ct)) (hcs : cs = pre ++ old ++ post) (hx : evn n e x = .pointer (some ⟨b, o, none⟩)) (ho : pre.length = o) (hy : evn n e y = v) (hc : v.cells.toList = vs) (hl : vs.length = s) (hl2 : old.length = s) (h1 : vs.all Value.oneCell' = true)
    (h : ∀ w', St w0 C w' (X.set i (bl b (pre ++ vs ++ post) ct)) L → wpA ro P full Q rest (E n e d) w') : wpA ro P full Q (⟨none, .store t x y, ty, ps, af, none⟩ :: rest) (E n e d) w := by
  subst hcs ho
  exact o_sto hx hy hc hs hl h1 S hi (by simp; omega) (putAt_toArray vs pre old post (by omega)) h
theorem putAt_one {pre post : List Value} {l l' : List Int} {m : Nat} {j x : Int} (hg : asetI l m j x = some l') : putAt (pre ++ sg l m ++ post).toArray (pre.length + j.toNat * 1) [I x] = (pre ++ sg l' m ++ post).toArray := by
  obtain ⟨h0, h1, rfl⟩ := asetI_some hg
  simp only [putAt, Nat.mul_one, List.append_assoc]
  rw [List.setIfInBounds_toArray]
  congr 1
  refine List.ext_getElem? fun q => ?_
  rw [List.getElem?_set]
  rcases Nat.lt_or_ge q pre.length with hq | hq
  · rw [if_neg (by omega), List.getElem?_append_left hq, List.getElem?_append_left hq]
  · rw [List.getElem?_append_right hq, List.getElem?_append_right hq]
    rcases Nat.lt_or_ge (q - pre.length) m with hm | hm
    · rw [List.getElem?_append_left (by rw [sg_len]; exact hm), List.getElem?_append_left (by rw [sg_len]; exact hm), sg_get _ hm, sg_get _ hm]
      by_cases hj : pre.length + j.toNat = q
      · rw [if_pos hj]
        have hlt : q - pre.length < m := hm
        have : q - pre.length = j.toNat := by omega
        simp [this, h1, sg_len]; omega
      · rw [if_neg hj]
        have : ¬ q - pre.length = j.toNat := by omega
        simp [List.getD, hm, this]
    · rw [if_neg (by omega), List.getElem?_append_right (by rw [sg_len]; exact hm), List.getElem?_append_right (by rw [sg_len]; exact hm), sg_len, sg_len]
/-- one of an array's numbers is written -/
theorem p_stS {t b i o m : Nat} {x y : Operand} {cs pre post : List Value} {l l' : List Int} {j v : Int} {ct : TypeId} (hs : sizOf P t = some 1) (hg : asetI l m j v = some l') (S : St w0 C w X L) (hi : X[i]? = some (bl b cs ct)) (hcs : cs = pre ++ sg l m ++ post) (hx : evn n e x = .pointer (some ⟨b, o + j.toNat * 1, none⟩)) (ho : pre.length = o) (hy : evn n e y = .int .i64 v)
    (h : ∀ w', St w0 C w' (X.set i (bl b (pre ++ sg l' m ++ post) ct)) L → wpA ro P full Q rest (E n e d) w') : wpA ro P full Q (⟨none, .store t x y, ty, ps, af, none⟩ :: rest) (E n e d) w := by
  subst hcs ho
  obtain ⟨h0, h1, _⟩ := asetI_some hg
  exact o_sto (vs := [I v]) hx hy rfl hs rfl rfl S hi (by simp [sg_len]; omega) (putAt_one hg) h
/-! calls -/
def argsOf (n : Nat) (e : Env) (g : Operand) (as : Array Operand) : Option (Nat × List Value) := match evn n e g with | .func (.func f) first caps => some (f, first.toList ++ (as.toList.map (evn n e) ++ caps.toList)) | _ => none
theorem p_cal {i f : Nat} {g : Operand} {as : Array Operand} {ts : Array TypeId} {vs : List Value} {R : Value → World → Prop} (hc : Calls P f vs.toArray w fun en w2 => ∃ v, en = .returned v ∧ R v w2) (hF : funOf P f = true) (hv : argsOf n e g as = some (f, vs))
    (h : ∀ v w2, R v w2 → wpA ro P full Q rest (E n (upd e i v) d) w2) : wpA ro P full Q (⟨some i, .call ⟨.value g, as, ts⟩, ty, ps, af, none⟩ :: rest) (E n e d) w := by
  unfold argsOf at hv
  split at hv
  · rename_i f' first caps hg
    simp only [Option.some.injEq, Prod.mk.injEq] at hv
    obtain ⟨rfl, rfl⟩ := hv
    refine o_call (first := first) (caps := caps) (args := as.toList.map (evn n e)) hg rfl hF ?_ hc h
    apply Array.ext'; simp
  · cases hv
/-- a call that only returns a value -/
theorem p_cv {i f : Nat} {g : Operand} {as : Array Operand} {ts : Array TypeId} {vs : List Value} {v : Value} (hc : Calls P f vs.toArray w (RetV w v)) (hF : funOf P f = true) (hv : argsOf n e g as = some (f, vs)) (S : St w0 C w X L)
    (h : ∀ w2, St w0 C w2 X L → wpA ro P full Q rest (E n (upd e i v) d) w2) : wpA ro P full Q (⟨some i, .call ⟨.value g, as, ts⟩, ty, ps, af, none⟩ :: rest) (E n e d) w :=
  p_cal (R := fun u w2 => u = v ∧ Keep0 w w2) hc hF hv fun u w2 ⟨hu, hk⟩ => hu ▸ h w2 (S.call hk)
/-! guards -/
theorem gT {dst : Option Nat} {op : Op} {j s : Nat} {want : Bool} (hj : (full[j]?).bind (·.dst) = some s) (hs : evn n e (.tmp s) = .bool want)
    (h : wpA ro P full Q (⟨dst, op, ty, ps, af, none⟩ :: rest) (E n e d) w) : wpA ro P full Q (⟨dst, op, ty, ps, af, some (j, want)⟩ :: rest) (E n e d) w :=
  o_guard (t := want) hj hs (fun _ => h) (fun h' => by cases want <;> cases h')
theorem gF {dst : Option Nat} {op : Op} {j s : Nat} {want : Bool} (hj : (full[j]?).bind (·.dst) = some s) (hs : evn n e (.tmp s) = .bool (!want))
    (h : wpA ro P full Q rest (E n (updo e dst undef) d) w) : wpA ro P full Q (⟨dst, op, ty, ps, af, some (j, want)⟩ :: rest) (E n e d) w :=
  o_guard (t := !want) hj hs (fun h' => by cases want <;> cases h') (fun _ => h)
end
end Go.Fx

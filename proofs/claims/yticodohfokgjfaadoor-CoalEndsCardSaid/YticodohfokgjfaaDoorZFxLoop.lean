/- Part of a logic of my own for walks: rules by which a proof steps through code, proved once. -/
import Derived.Test.YticodohfokgjfaaDoorZFxQuiet2
set_option linter.unusedSimpArgs false
set_option linter.unusedVariables false
namespace Go.Fx
open Go
section
variable {ro : Option Nat} {P : Program} {full : Array Oper} {Q : Exit → Act → World → Prop} {n : Nat} {d : List Deferred} {e : Env} {w w0 w' : World} {C : Nat → Prop} {X L : List Asr}
variable {rest : List Oper} {ty : TypeId} {ps : String} {af : Array Edge}
/-- where ways meet: z is told in the plain function, a are addresses -/
theorem c_join {x y : Code} {α β : Type} (L : α → β → List (Nat × Value)) (I : α → β → World → Prop)
    (hx : x.wpIn (Fr ro) 0 P (Exit.then (fun a w' => ∃ (z : α) (b : β) (e' : Env), a = E n e' d ∧ Has e' (L z b) ∧ I z b w') Q) (E n e d) w)
    (hy : ∀ (z : α) (b : β) (g : Env) (w : World), I z b w → y.wpIn (Fr ro) 0 P Q (E n (ups g (L z b)) d) w) : (Code.seq x y).wpIn (Fr ro) 0 P Q (E n e d) w := by
  refine wpIn_seq (wpIn_mono hx ?_)
  intro ex a' w' hq
  cases ex with
  | normal =>
    obtain ⟨z, b, e', rfl, hh, hI⟩ := hq
    have := hy z b e' w' hI
    rwa [ups_has hh] at this
  | exit id => exact hq
  | goto l => exact hq
  | ret => exact hq
  | panic c => exact hq
  | outgrown => exact hq
/-- a loop, told by a plain one -/
theorem c_lop {c : Code} {α β ρ : Type} (body : (α → Option ρ) → α → Option ρ) {r : ρ} (L : α → β → List (Nat × Value)) (I : α → β → World → Prop) {m : Nat} (x : α) (y : β) (H : loopF body m x = some r) (hL : Has e (L x y)) (h0 : I x y w)
    (round : ∀ (m : Nat) (x : α) (y : β) (g : Env) (w : World), body (loopF body m) x = some r → I x y w →
      c.wpIn (Fr ro) 0 P (Exit.then (fun a w' => ∃ (x' : α) (y' : β) (e' : Env), a = E n e' d ∧ Has e' (L x' y') ∧ loopF body m x' = some r ∧ I x' y' w') Q) (E n (ups g (L x y)) d) w) :
    (Code.loop c).wpIn (Fr ro) 0 P Q (E n e d) w := by
  refine c_loop (α := Nat × α × β) (fun z => L z.2.1 z.2.2) (fun z w => loopF body z.1 z.2.1 = some r ∧ I z.2.1 z.2.2 w) (fun z => z.1) (m, x, y) hL ⟨H, h0⟩ ?_
  rintro ⟨m, x, y⟩ g w ⟨H, hI⟩
  obtain ⟨k, rfl, H⟩ := loopS H
  refine wpIn_mono (round k x y g w H hI) ?_
  intro ex a' w' hq
  cases ex with
  | normal =>
    obtain ⟨x', y', e', rfl, hh, hH, hI'⟩ := hq
    exact ⟨(k, x', y'), e', rfl, hh, ⟨hH, hI'⟩, Nat.lt_succ_self _⟩
  | exit id => exact hq
  | goto l => exact hq
  | ret => exact hq
  | panic c => exact hq
  | outgrown => exact hq
/-- a bool that is known now -/
theorem eB {i : Nat} {r v : Bool} (h : r = v) (k : wpA ro P full Q rest (E n (upd e i (B v)) d) w) : wpA ro P full Q rest (E n (upd e i (.bool r)) d) w := by subst h; exact k
theorem dB {os : List Oper} {i : Nat} {r v : Bool} {K : Env → Prop} (h : r = v) (k : DSk ro P full n d w os (updo e (some i) (B v)) K) : DSk ro P full n d w os (updo e (some i) (.bool r)) K := by subst h; exact k
theorem St.addNew (S : St w0 C w X L) (k : Keep0 w w') {x : Asr} (hx : x.ok w') (hn : New w.heap.size x) : St w0 C w' (x :: X) L :=
  S.addX k hx hn (fun y hy b h1 h2 => by have := y.inb _ _ (S.xs y hy) h2; have := hn b h1; omega) (fun y hy b h1 h2 => by have := y.inb _ _ (S.ps y hy) h2; have := hn b h1; omega)
theorem St.pk (S : St w0 C w X L) (is : List Nat) (hn : is.Nodup) (js : List Nat) {X' L' : List Asr} (hX : is.filterMap (X[·]?) = X') (hL : js.filterMap (L[·]?) = L') : St w0 C w X' L' := by
  have S' := S.pick is hn hX (k := 0) rfl
  refine ⟨S'.keep, S'.xs, fun p hp => ?_, S'.dx, fun x hx p hp => ?_, S'.own⟩
  · subst hL
    obtain ⟨i, _, hi⟩ := List.mem_filterMap.1 hp
    exact S.ps p (List.mem_of_getElem? hi)
  · subst hL
    obtain ⟨i, _, hi⟩ := List.mem_filterMap.1 hp
    exact S'.dp x hx p (List.mem_of_getElem? (i := i) (by simpa using hi))
/-! parts of slices -/
def inI (j : Int) (n : Nat) : Bool := decide (0 ≤ j) && decide (j < n)
theorem inI_spec {j : Int} {n : Nat} (h : inI j n = true) : 0 ≤ j ∧ j < n := by simpa [inI] using h
def aget (l : List Int) (j : Int) : Int := l.getD j.toNat 0
def aset (l : List Int) (n : Nat) (i x : Int) : List Int := (List.range n).map fun k => if k = i.toNat then x else l.getD k 0
theorem aset_len {l : List Int} {n : Nat} {i x : Int} : (aset l n i x).length = n := by simp [aset]
theorem p_ixD {t i : Nat} {x y : Operand} {b o len s : Nat} {k : IntKind} {j : Int} (hT : arrOf P t = some (len, s)) (hj : inI j len = true) (hx : evn n e x = .pointer (some ⟨b, o, none⟩)) (hy : evn n e y = .int k j)
    (h : wpA ro P full Q rest (E n (upd e i (Fx.P b (o + j.toNat * s))) d) w) : wpA ro P full Q (⟨some i, .indexAddr t x y, ty, ps, af, none⟩ :: rest) (E n e d) w := o_ixA hx hy hT (inI_spec hj).1 (inI_spec hj).2 rfl h
theorem p_ldD {t i b o m : Nat} {x : Operand} {pre post cs : List Value} {l : List Int} {j : Int} {ct : TypeId} (hT : aggOf P t = some false) (hw : w.heap[b]? = some (.cells cs.toArray ct)) (hc : cs = pre ++ (sg l m ++ post)) (hj : inI j m = true) (hx : evn n e x = .pointer (some ⟨b, o + j.toNat * 1, none⟩)) (ho : o = pre.length)
    (h : wpA ro P full Q rest (E n (upd e i (I (aget l j))) d) w) : wpA ro P full Q (⟨some i, .load t x, ty, ps, af, none⟩ :: rest) (E n e d) w := by
  obtain ⟨h0, h1⟩ := inI_spec hj
  exact p_ldS hT hw (by rw [hc, List.append_assoc]) hx ho (by omega) h
theorem p_stD {t b i o m : Nat} {x y : Operand} {cs pre post : List Value} {l : List Int} {j v : Int} {ct : TypeId} (hs : sizOf P t = some 1) (S : St w0 C w X L) (hi : X[i]? = some (bl b cs ct)) (hcs : cs = pre ++ (sg l m ++ post)) (hj : inI j m = true) (hx : evn n e x = .pointer (some ⟨b, o + j.toNat * 1, none⟩)) (ho : pre.length = o) (hy : evn n e y = .int .i64 v)
    (h : ∀ w', St w0 C w' (X.set i (bl b (pre ++ (sg (aset l m j v) m ++ post)) ct)) L → wpA ro P full Q rest (E n e d) w') : wpA ro P full Q (⟨none, .store t x y, ty, ps, af, none⟩ :: rest) (E n e d) w := by
  obtain ⟨h0, h1⟩ := inI_spec hj
  refine p_stS (l' := aset l m j v) hs ?_ S hi (by rw [hcs, List.append_assoc]) hx ho hy fun w' S' => h w' (by rwa [List.append_assoc] at S')
  simp [asetI, aset, h0, h1]
def cutI {α : Type} (l : List α) (lo hi : Int) : Option (List α) := bif decide (0 ≤ lo) && (decide (lo ≤ hi) && decide (hi ≤ l.length)) then some ((l.take hi.toNat).drop lo.toNat) else none
theorem cutI_some {α : Type} {l l' : List α} {lo hi : Int} (h : cutI l lo hi = some l') : 0 ≤ lo ∧ lo ≤ hi ∧ hi ≤ l.length ∧ l' = (l.take hi.toNat).drop lo.toNat := by
  unfold cutI at h
  by_cases h1 : 0 ≤ lo <;> by_cases h2 : lo ≤ hi <;> by_cases h3 : hi ≤ l.length <;> simp only [h1, h2, h3, decide_true, decide_false, Bool.and_true, Bool.and_false, Bool.and_self, cond_true, cond_false, reduceCtorEq, Option.some.injEq] at h
  exact ⟨h1, h2, h3, h.symm⟩
/-- xs[:len(xs):len(xs)] -/
theorem p_cut3 {α : Type} {enc : α → List Value} {t i el s c : Nat} {x hi mx : Operand} {A : Option Addr} {l : List α} (hT : slcOf P t = some (el, s)) (hw : (rd enc s A c l).ok w) (hx : evn n e x = .slice A l.length c) (hhi : evn n e hi = I (l.length : Int)) (hmx : evn n e mx = I (l.length : Int))
    (h : wpA ro P full Q rest (E n (upd e i (SL A l.length l.length)) d) w) : wpA ro P full Q (⟨some i, .slice t x none (some hi) (some mx), ty, ps, af, none⟩ :: rest) (E n e d) w :=
  o_cut3E hx hT hhi hmx (by omega) (Int.le_refl _) (by have := hw.2.1; omega) (by simp) (by simp) h
theorem rd_full {α : Type} {enc : α → List Value} {s c : Nat} {A : Option Addr} {l : List α} (hw : (rd enc s A c l).ok w) : (rd enc s A l.length l).ok w := ⟨hw.1, Nat.le_refl _, Nat.le_trans hw.2.1 hw.2.2⟩
/-! appends -/
def fitsL (m bb : Nat) : Bool := decide (m * bb ≤ 140737488355328)
theorem fitsL_spec {m bb : Nat} (h : fitsL m bb = true) : m * bb ≤ 140737488355328 := by simpa [fitsL] using h
section
variable {α : Type} {enc : α → List Value} {s : Nat}
/-- one more element of an own row -/
theorem p_app {st i el bb k : Nat} {x y : Operand} {A B : Option Addr} {c c2 : Nat} {z : Value} {l ys : List α} (hT : slcOf P st = some (el, s)) (hz : infoOf P el = some (some z, s, bb)) (hzs : z.cells.size = s) (he : ∀ x, (enc x).length = s) (h1 : ∀ x, ∀ u ∈ enc x, u.oneCell' = true) (hbb : 0 < bb)
    (S : St w0 C w X L) (hi : X[k]? = some (gr enc s el A c l)) (hys : (sl enc s B ys).ok w) (hbig : fitsL (l.length + ys.length) bb = true) (hne : ys ≠ []) (hx : evn n e x = .slice A l.length c) (hy : evn n e y = .slice B ys.length c2)
    (h : ∀ A' c' w', St w0 C w' (X.set k (gr enc s el A' c' (l ++ ys))) L → wpA ro P full Q rest (E n (upd e i (SL A' (l ++ ys).length c')) d) w') :
    wpA ro P full Q (⟨some i, .call ⟨.builtin .append, #[x, y], #[st, st]⟩, ty, ps, af, none⟩ :: rest) (E n e d) w :=
  o_app hx hy hT hz hzs he h1 S hi rfl rfl hys hne (fitsL_spec hbig) hbb fun A' c' w' S' => by
    have := h (some A') c' w' S'
    rwa [List.length_append] at this
/-- onto a full slice, or none: a new row -/
theorem p_appN {st i el bb : Nat} {x y : Operand} {A B : Option Addr} {c c2 : Nat} {z : Value} {l ys : List α} (hT : slcOf P st = some (el, s)) (hz : infoOf P el = some (some z, s, bb)) (hzs : z.cells.size = s) (he : ∀ x, (enc x).length = s) (hbb : 0 < bb)
    (S : St w0 C w X L) (hl : (sl enc s A l).ok w) (hc : c = l.length) (hys : (sl enc s B ys).ok w) (hbig : fitsL (l.length + ys.length) bb = true) (hne : ys ≠ []) (hx : evn n e x = .slice A l.length c) (hy : evn n e y = .slice B ys.length c2)
    (h : ∀ A' c' w', St w0 C w' (gr enc s el A' c' (l ++ ys) :: X) L → wpA ro P full Q rest (E n (upd e i (SL A' (l ++ ys).length c')) d) w') :
    wpA ro P full Q (⟨some i, .call ⟨.builtin .append, #[x, y], #[st, st]⟩, ty, ps, af, none⟩ :: rest) (E n e d) w :=
  o_appN hx hy hT hz hzs he S hl (fun hA => by rw [hc]; exact sl_none0 hl hA) rfl hc rfl hys hne (fitsL_spec hbig) hbb fun b c' w' _ S' => by
    have := h (some ⟨b, 0, none⟩) c' w' S'
    rwa [List.length_append] at this
/-- a variable that holds nothing yet -/
theorem St.nilRow (S : St w0 C w X L) (enc : α → List Value) (s el : Nat) : St w0 C w (gr enc s el none 0 [] :: X) L := S.addNil enc s el
theorem fold_putAt (off : Nat) : ∀ (vs : List Value) (j : Nat) (c : Array Value), ((vs.zipIdx j).foldl (fun (cs : Array Value) (p : Value × Nat) => cs.setIfInBounds (off + p.2) p.1) c) = putAt c (off + j) vs
  | [], _, _ => rfl
  | v :: vs, j, c => by
    rw [List.zipIdx_cons, List.foldl_cons, fold_putAt off vs (j + 1)]
    rfl
theorem fill_step {place : Nat → Option (Nat × Nat)} {c : Array Value} {i off m : Nat} {v : Value} {vs : List Value} {rest : List (Nat × Value)} (hp : place i = some (off, m)) (hv : v.cells = vs.toArray) (hl : vs.length = m) (hs : off + m ≤ c.size) :
    Instr.fill place c ((i, v) :: rest) = Instr.fill place (putAt c off vs) rest := by
  subst hl
  have hsz : v.cells.size = vs.length := by rw [hv]; simp
  have hn : ¬ (off + vs.length > c.size) := by omega
  have hf := fold_putAt off vs 0 c
  rw [Nat.add_zero] at hf
  simp only [Instr.fill, hp, hsz, ne_eq, not_true_eq_false, decide_false, Bool.false_or, decide_eq_true_eq, if_neg hn]
  rw [hv, ← hf, ← Array.foldl_toList, Array.toList_zipIdx]
/-- values, numbered -/
def numv {α : Type} (vl : α → Value) : Nat → List α → List (Nat × Value)
  | _, [] => []
  | k, x :: l => (k, vl x) :: numv vl (k + 1) l
theorem fill_all {vl : α → Value} (hvl : ∀ x, (vl x).cells = (enc x).toArray) (he : ∀ x, (enc x).length = s) : ∀ (l : List α) (k : Nat) (pre old : List Value), pre.length = k * s → old.length = l.length * s → Instr.fill (fun i => some (i * s, s)) (pre ++ old).toArray (numv vl k l) = some (pre ++ l.flatMap enc).toArray
  | [], k, pre, old, h1, h2 => by
    simp at h2; subst h2; rfl
  | x :: l, k, pre, old, h1, h2 => by
    rw [List.length_cons, Nat.succ_mul] at h2
    rw [numv, fill_step rfl (hvl x) (he x) (by simp; omega), ← h1]
    have h3 := putAt_toArray (enc x) pre (old.take s) (old.drop s) (by rw [he]; simp; omega)
    rw [List.append_assoc, List.take_append_drop] at h3
    rw [h3, fill_all hvl he l (k + 1) (pre ++ enc x) (old.drop s) (by rw [List.length_append, he, Nat.succ_mul]; omega) (by simp; omega)]
    simp [List.flatMap_cons]
/-- a slice built of its elements, as an own row -/
theorem p_bsl {t i len el bb : Nat} {zs : List Value} {parts : Array (Nat × Operand)} {z : Value} {l : List α} (vl : α → Value) (hvl : ∀ x, (vl x).cells = (enc x).toArray) (hT : slcOf P t = some (el, s)) (hz : infoOf P el = some (some z, s, bb)) (he : ∀ x, (enc x).length = s) (hl : l.length = len)
    (h0 : 0 < len * s) (h1 : len * s ≤ 2 ^ 24) (hzs : zrow z (len * s) = zs.toArray) (S : St w0 C w X L) (hv : parts.toList.map (fun (i, x) => (i, evn n e x)) = numv vl 0 l)
    (h : ∀ A c w', St w0 C w' (gr enc s el A c l :: X) L → wpA ro P full Q rest (E n (upd e i (SL A l.length c)) d) w') :
    wpA ro P full Q (⟨some i, .buildSlice t len parts, ty, ps, af, none⟩ :: rest) (E n e d) w := by
  subst hl
  have hzl : zs.length = l.length * s := by
    have := congrArg Array.size hzs
    simp [zrow] at this
    exact this.symm
  refine o_bsl hT hz hv h0 h1 hzs (cs := (l.flatMap enc).toArray) (by simpa using fill_all hvl he l 0 [] zs (by simp) hzl) S fun b w' hb S' => h (some ⟨b, 0, none⟩) l.length w' ?_
  have hc : w'.heap[b]? = some (.cells (l.flatMap enc).toArray el) := S'.at (i := 0) rfl
  have hlen : l.length ≤ maxLen := by
    have : l.length ≤ l.length * s := Nat.le_mul_of_pos_right _ (Nat.pos_of_mul_pos_left h0)
    rw [maxLen_eq]; omega
  have S2 := S'.turn (i := 0) rfl (y := gr enc s el (some ⟨b, 0, none⟩) l.length l) ⟨flat_len he l, .inr ⟨b, l.length, (l.flatMap enc).toArray, rfl, Nat.zero_le _, hc, Nat.le_refl _, hlen, by simp [flat_len he l], by show (l.flatMap enc).take _ = _; rw [← flat_len he l]; exact List.take_length⟩⟩ (fun b' hb' => .inl (by simp [gr, Value.ownBlock] at hb'; exact hb'.symm)) rfl rfl rfl (Nat.le_refl _) (fun _ _ _ => rfl)
  simpa using S2
theorem p_bsl0 {t i el : Nat} (enc : α → List Value) (hT : slcOf P t = some (el, s)) (S : St w0 C w X L)
    (h : ∀ A w', St w0 C w' (gr enc s el A 0 ([] : List α) :: X) L → wpA ro P full Q rest (E n (upd e i (SL A 0 0)) d) w') :
    wpA ro P full Q (⟨some i, .buildSlice t 0 #[], ty, ps, af, none⟩ :: rest) (E n e d) w := by
  refine o_bsl0 hT S fun b w' hb S' => h (some ⟨b, 0, none⟩) w' ?_
  have hc : w'.heap[b]? = some (.cells #[] el) := S'.at (i := 0) rfl
  have S2 := S'.turn (i := 0) rfl (y := gr enc s el (some ⟨b, 0, none⟩) 0 ([] : List α)) ⟨by simp, .inr ⟨b, 0, #[], rfl, Nat.zero_le _, hc, Nat.le_refl _, Nat.zero_le _, by simp, by simp⟩⟩ (fun b' hb' => .inl (by simp [gr, Value.ownBlock] at hb'; exact hb'.symm)) rfl rfl rfl (Nat.le_refl _) (fun _ _ _ => rfl)
  simpa using S2
end
end
end Go.Fx
namespace Go.Fx
open Go
theorem rvA {P : Program} {n : Nat} {e : Env} {w : World} {a t b s : Nat} {cs : List Value} {ct : TypeId} (hx : evn n e (.tmp a) = .pointer (some ⟨b, 0, none⟩)) (hT : aggOf P t = some true) (hs : sizOf P t = some s) (hw : w.heap[b]? = some (.cells cs.toArray ct)) (hl : cs.length = s) : Rv P n e w (.cell a t) (AG cs) :=
  rvN hx hT hs hl (box_cells hw (by simp))
theorem rvC {P : Program} {n : Nat} {e : Env} {w : World} {a t b : Nat} {v : Value} {ct : TypeId} (hx : evn n e (.tmp a) = .pointer (some ⟨b, 0, none⟩)) (hT : aggOf P t = some false) (hw : w.heap[b]? = some (.cells #[v] ct)) : Rv P n e w (.cell a t) v :=
  rv1 hx hT ((cell_of hw 0).trans rfl)
end Go.Fx
namespace Go.Fx
open Go
/-! more of integers -/
def modI (x y : Int) : Int := x.tmod y
def andI (x y : Int) : Int := wr ((BitVec.ofInt 64 x &&& BitVec.ofInt 64 y).toNat : Int)
def orI (x y : Int) : Int := wr ((BitVec.ofInt 64 x ||| BitVec.ofInt 64 y).toNat : Int)
def andNotI (x y : Int) : Int := wr ((BitVec.ofInt 64 x &&& ~~~(BitVec.ofInt 64 y)).toNat : Int)
def shlI (x y : Int) : Int := wr (x * 2 ^ (min y.toNat 64))
def shrI (x y : Int) : Int := x.fdiv (2 ^ (min y.toNat 64))
section
variable {ro : Option Nat} {P : Program} {full : Array Oper} {Q : Exit → Act → World → Prop} {n : Nat} {d : List Deferred} {e : Env} {w : World}
variable {rest : List Oper} {ty : TypeId} {ps : String} {af : Array Edge} {x y : Operand} {i xt yt : Nat} {a b : Int}
theorem p_rem (hb : (b != 0) = true) (hx : evn n e x = .int .i64 a) (hy : evn n e y = .int .i64 b) (h : wpA ro P full Q rest (E n (upd e i (I (modI a b))) d) w) : wpA ro P full Q (⟨some i, .binOp .rem xt x y yt, ty, ps, af, none⟩ :: rest) (E n e d) w :=
  op_val (v := I (modI a b)) rfl (fun _ h => by cases h) (by have hb' : b ≠ 0 := by simpa using hb
                                                             simp [execOp, hx, hy, eqGuard, binOp, Op.intDiv, hb', modI]) h
theorem p_andI (hx : evn n e x = .int .i64 a) (hy : evn n e y = .int .i64 b) (h : wpA ro P full Q rest (E n (upd e i (I (andI a b))) d) w) : wpA ro P full Q (⟨some i, .binOp .and xt x y yt, ty, ps, af, none⟩ :: rest) (E n e d) w :=
  op_val (v := I (andI a b)) rfl (fun _ h => by cases h) (by simp only [execOp, hx, hy, eqGuard, binOp, Op.intBits]; rfl) h
theorem p_orI (hx : evn n e x = .int .i64 a) (hy : evn n e y = .int .i64 b) (h : wpA ro P full Q rest (E n (upd e i (I (orI a b))) d) w) : wpA ro P full Q (⟨some i, .binOp .or xt x y yt, ty, ps, af, none⟩ :: rest) (E n e d) w :=
  op_val (v := I (orI a b)) rfl (fun _ h => by cases h) (by simp only [execOp, hx, hy, eqGuard, binOp, Op.intBits]; rfl) h
theorem p_andNotI (hx : evn n e x = .int .i64 a) (hy : evn n e y = .int .i64 b) (h : wpA ro P full Q rest (E n (upd e i (I (andNotI a b))) d) w) : wpA ro P full Q (⟨some i, .binOp .andNot xt x y yt, ty, ps, af, none⟩ :: rest) (E n e d) w :=
  op_val (v := I (andNotI a b)) rfl (fun _ h => by cases h) (by simp only [execOp, hx, hy, eqGuard, binOp, Op.intBits]; rfl) h
theorem p_shl (hb : decide (0 ≤ b) = true) {k : IntKind} (hx : evn n e x = .int .i64 a) (hy : evn n e y = .int k b) (h : wpA ro P full Q rest (E n (upd e i (I (shlI a b))) d) w) : wpA ro P full Q (⟨some i, .binOp .shl xt x y yt, ty, ps, af, none⟩ :: rest) (E n e d) w :=
  op_val (v := I (shlI a b)) rfl (fun _ h => by cases h) (by have hb' : ¬ b < 0 := by simpa using hb
                                                             simp [execOp, hx, hy, eqGuard, binOp, Op.shift, hb', shlI]; rfl) h
theorem p_shr (hb : decide (0 ≤ b) = true) {k : IntKind} (hx : evn n e x = .int .i64 a) (hy : evn n e y = .int k b) (h : wpA ro P full Q rest (E n (upd e i (I (shrI a b))) d) w) : wpA ro P full Q (⟨some i, .binOp .shr xt x y yt, ty, ps, af, none⟩ :: rest) (E n e d) w :=
  op_val (v := I (shrI a b)) rfl (fun _ h => by cases h) (by have hb' : ¬ b < 0 := by simpa using hb
                                                             simp [execOp, hx, hy, eqGuard, binOp, Op.shift, hb', shrI]; rfl) h
end
end Go.Fx

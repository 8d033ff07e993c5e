/- Part of a logic of my own for walks: rules by which a proof steps through code, proved once. -/
import Derived.Test.YticodohfokgjfaaDoorZFxApp
import Derived.Laws.StructEq
import Derived.ChangeKeysEq
set_option linter.unusedSimpArgs false
set_option linter.unusedVariables false
namespace Go.Fx
open Go

/-! ### == of plain values -/
inductive Lf where | int (k : IntKind) | bool | str
def Lf.fit : Lf → Value → Prop
  | .int k, v => ∃ n, v = .int k n
  | .bool, v => ∃ b, v = .bool b
  | .str, v => ∃ s, v = .string s
def fits : List Lf → List Value → Prop
  | [], [] => True
  | l :: ls, v :: vs => l.fit v ∧ fits ls vs
  | _, _ => False
theorem fits_len : ∀ {ls : List Lf} {vs : List Value}, fits ls vs → ls.length = vs.length
  | [], [], _ => rfl
  | _ :: _, _ :: _, h => by simp [fits_len h.2]
  | [], _ :: _, h => h.elim
  | _ :: _, [], h => h.elim
theorem fits_split : ∀ {l1 l2 : List Lf} {vs : List Value}, fits (l1 ++ l2) vs → ∃ a b, vs = a ++ b ∧ fits l1 a ∧ fits l2 b
  | [], _, vs, h => ⟨[], vs, rfl, trivial, h⟩
  | l :: l1, l2, v :: vs, h => by
    obtain ⟨a, b, rfl, h1, h2⟩ := fits_split (l1 := l1) h.2
    exact ⟨v :: a, b, rfl, ⟨h.1, h1⟩, h2⟩
  | _ :: _, _, [], h => h.elim
theorem fits_ints : ∀ (o : List Int), fits (List.replicate o.length (.int .i64)) (o.map (Value.int .i64))
  | [] => trivial
  | x :: o => ⟨⟨x, rfl⟩, fits_ints o⟩
def shF (P : Program) (g : TypeId → Option (List Lf)) : List Field → Nat → Option (List Lf)
  | [], _ => some []
  | f :: fs, o => if f.name != "_" && f.offset == o then
      match g f.type with
      | some l => if sizOf P f.type == some l.length then (shF P g fs (o + l.length)).map (l ++ ·) else none
      | none => none
    else none
def shT (P : Program) : Nat → TypeId → Option (List Lf)
  | 0, _ => none
  | m + 1, t =>
    match P.underlying t with
    | some (.int q) => some [.int q]
    | some .bool => some [.bool]
    | some .string => some [.str]
    | some (.array n e) => match shT P m e with
      | some l => if sizOf P e == some l.length then some (List.replicate n l).flatten else none
      | none => none
    | some (.struct fs) => if P.stoodInHeld t then none else shF P (shT P m) fs.toList 0
    | _ => none
def mkV (P : Program) (t : TypeId) (cs : List Value) : Value := if aggOf P t = some true then .agg cs.toArray else cs.headD undef
section
variable {P : Program}
theorem shT_agg {m : Nat} {t : TypeId} {ls : List Lf} (h : shT P m t = some ls) : aggOf P t = some true ∨ (aggOf P t = some false ∧ ∃ l, ls = [l]) := by
  cases m with
  | zero => simp [shT] at h
  | succ m =>
    unfold shT at h
    split at h
    · rename_i hu; right; simp at h; exact ⟨by simp [aggOf, hu], _, h.symm⟩
    · rename_i hu; right; simp at h; exact ⟨by simp [aggOf, hu], _, h.symm⟩
    · rename_i hu; right; simp at h; exact ⟨by simp [aggOf, hu], _, h.symm⟩
    · rename_i hu; left; simp [aggOf, hu]
    · rename_i hu; left; simp [aggOf, hu]
    · cases h
theorem run_partV {m : Nat} {t : TypeId} {ls : List Lf} (h : shT P m t = some ls) (hs : sizOf P t = some ls.length) {pre a post : List Value} (hf : fits ls a) (w : World) :
    (part t (pre ++ a ++ post).toArray pre.length).run P w = .ok (mkV P t a) w := by
  have hlen := fits_len hf
  rcases shT_agg h with hA | ⟨hA, l, rfl⟩
  · have : ((pre ++ a ++ post).toArray.extract pre.length (pre.length + ls.length)) = a.toArray := by
      rw [hlen]
      apply Array.ext'
      simp [List.append_assoc]
    simp only [part, Sem.run_bind, run_isAgg hA, Result.andThen_ok, if_true, run_sizeOf hs, Sem.run_pure, mkV, hA, this]
  · obtain ⟨v, rfl⟩ : ∃ v, a = [v] := by
      cases a with
      | nil => simp at hlen
      | cons v a => cases a with
        | nil => exact ⟨v, rfl⟩
        | cons _ _ => simp at hlen
    simp [part, run_isAgg hA, mkV, hA]
def EqV (P : Program) (dd : Nat) (t : TypeId) (ls : List Lf) : Prop := ∀ (w : World) (xs ys : List Value), fits ls xs → fits ls ys → ∃ r : Bool, (Op.equalIn dd t (mkV P t xs) (mkV P t ys)).run P w = .ok r w ∧ (r = true ↔ xs = ys)
theorem app_inj {a b c d : List Value} (h : a.length = c.length) : a ++ b = c ++ d ↔ a = c ∧ b = d := by
  constructor
  · intro he; exact List.append_inj he h
  · rintro ⟨rfl, rfl⟩; rfl
theorem run_eqFieldsV {m dd : Nat} (IH : ∀ t ls, shT P m t = some ls → EqV P dd t ls) (w : World) : ∀ (fs : List Field) (o : Nat) (ls : List Lf), shF P (shT P m) fs o = some ls → ∀ (px py xs ys : List Value), px.length = o → py.length = o → fits ls xs → fits ls ys →
    ∃ r : Bool, (Op.eqFields dd (px ++ xs).toArray (py ++ ys).toArray fs).run P w = .ok r w ∧ (r = true ↔ xs = ys)
  | [], o, ls, h, px, py, xs, ys, h1, h2, h3, h4 => by
    simp [shF] at h; subst h
    have e1 := fits_len h3; have e2 := fits_len h4
    have : xs = [] := List.eq_nil_of_length_eq_zero e1.symm
    have : ys = [] := List.eq_nil_of_length_eq_zero e2.symm
    subst xs ys
    exact ⟨true, by simp [Op.eqFields], by simp⟩
  | f :: fs, o, ls, h, px, py, xs, ys, h1, h2, h3, h4 => by
    unfold shF at h
    split at h
    · rename_i hn
      simp only [Bool.and_eq_true, bne_iff_ne, beq_iff_eq] at hn
      obtain ⟨hn, ho⟩ := hn
      split at h
      · rename_i l hl
        split at h
        · rename_i hs
          have hs' : sizOf P f.type = some l.length := by simpa using hs
          obtain ⟨l2, hl2, rfl⟩ := Option.map_eq_some_iff.1 h
          obtain ⟨a, xs', rfl, fa, fx⟩ := fits_split h3
          obtain ⟨b, ys', rfl, fb, fy⟩ := fits_split h4
          obtain ⟨r, hr, hiff⟩ := IH _ _ hl w a b fa fb
          have la := fits_len fa; have lb := fits_len fb
          obtain ⟨r', hr', hiff'⟩ := run_eqFieldsV IH w fs (o + l.length) l2 hl2 (px ++ a) (py ++ b) xs' ys' (by simp [h1, la]) (by simp [h2, lb]) fx fy
          have p1 := run_partV (P := P) hl hs' (pre := px) (post := xs') fa w
          have p2 := run_partV (P := P) hl hs' (pre := py) (post := ys') fb w
          rw [h1, ← ho, List.append_assoc] at p1
          rw [h2, ← ho, List.append_assoc] at p2
          rw [List.append_assoc, List.append_assoc] at hr'
          simp only [Op.eqFields, hn, ne_eq, not_false_eq_true, if_true, Sem.run_bind, p1, p2, hr, Result.andThen_ok, app_inj (la.symm.trans lb)]
          cases r
          · exact ⟨false, by simp, by simp; intro e; exact absurd (hiff.2 e) (by simp)⟩
          · refine ⟨r', by simpa using hr', ?_⟩
            rw [hiff']
            simp [hiff.1 rfl]
        · cases h
      · cases h
    · cases h
theorem run_eqItemsV {m dd k : Nat} {e : TypeId} {l : List Lf} (IH : EqV P dd e l) (hl : shT P m e = some l) (hs : sizOf P e = some l.length) (hk : P.cellsOf e = k) (w : World) : ∀ (n i : Nat) (px py xs ys : List Value), px.length = i * l.length → py.length = i * l.length →
    fits (List.replicate n l).flatten xs → fits (List.replicate n l).flatten ys →
    ∃ r : Bool, (Op.eqItems dd e l.length (px ++ xs).toArray (py ++ ys).toArray (List.range' i n)).run P w = .ok r w ∧ (r = true ↔ xs = ys)
  | 0, i, px, py, xs, ys, h1, h2, h3, h4 => by
    have e1 := fits_len h3; have e2 := fits_len h4
    have : xs = [] := List.eq_nil_of_length_eq_zero (by simpa using e1.symm)
    have : ys = [] := List.eq_nil_of_length_eq_zero (by simpa using e2.symm)
    subst xs ys
    exact ⟨true, by simp [Op.eqItems], by simp⟩
  | n + 1, i, px, py, xs, ys, h1, h2, h3, h4 => by
    rw [List.replicate_succ, List.flatten_cons] at h3 h4
    obtain ⟨a, xs', rfl, fa, fx⟩ := fits_split h3
    obtain ⟨b, ys', rfl, fb, fy⟩ := fits_split h4
    obtain ⟨r, hr, hiff⟩ := IH w a b fa fb
    have la := fits_len fa; have lb := fits_len fb
    obtain ⟨r', hr', hiff'⟩ := run_eqItemsV IH hl hs hk w n (i + 1) (px ++ a) (py ++ b) xs' ys' (by simp [h1, la, Nat.succ_mul]) (by simp [h2, lb, Nat.succ_mul]) fx fy
    have p1 := run_partV (P := P) hl hs (pre := px) (post := xs') fa w
    have p2 := run_partV (P := P) hl hs (pre := py) (post := ys') fb w
    rw [h1, List.append_assoc] at p1
    rw [h2, List.append_assoc] at p2
    rw [List.append_assoc, List.append_assoc] at hr'
    simp only [List.range'_succ, Op.eqItems, Sem.run_bind, p1, p2, hr, Result.andThen_ok, app_inj (la.symm.trans lb)]
    cases r
    · exact ⟨false, by simp, by simp; intro e; exact absurd (hiff.2 e) (by simp)⟩
    · refine ⟨r', by simpa using hr', ?_⟩
      rw [hiff']
      simp [hiff.1 rfl]
theorem cellsOf_of {t s : Nat} (h : sizOf P t = some s) : P.cellsOf t = s := by
  unfold sizOf at h
  unfold Program.cellsOf
  cases hi : P.info? t with
  | none => simp [hi] at h
  | some i => simpa [hi] using h
theorem run_equalV (d : Nat) : ∀ (m : Nat) (t : TypeId) (ls : List Lf), shT P m t = some ls → EqV P (d + m) t ls
  | 0, _, _, h => by simp [shT] at h
  | m + 1, t, ls, h => by
    intro w xs ys hx hy
    have h' := h
    unfold shT at h
    have one : ∀ l, ls = [l] → ∃ a b, xs = [a] ∧ ys = [b] ∧ l.fit a ∧ l.fit b := by
      rintro l rfl
      cases xs with
      | nil => exact hx.elim
      | cons a xs => cases xs with
        | cons _ _ => exact hx.2.elim
        | nil => cases ys with
          | nil => exact hy.elim
          | cons b ys => cases ys with
            | cons _ _ => exact hy.2.elim
            | nil => exact ⟨a, b, rfl, rfl, hx.1, hy.1⟩
    rw [← Nat.add_assoc]
    split at h
    · rename_i q hu
      simp at h; obtain ⟨a, b, rfl, rfl, ⟨p, rfl⟩, ⟨p', rfl⟩⟩ := one _ h.symm
      have hA : aggOf P t = some false := by simp [aggOf, hu]
      exact ⟨p == p', by simpa [mkV, hA] using Go.run_equalIn_int w (d + m) t q q p p' hu, by simp⟩
    · rename_i hu
      simp at h; obtain ⟨a, b, rfl, rfl, ⟨p, rfl⟩, ⟨p', rfl⟩⟩ := one _ h.symm
      have hA : aggOf P t = some false := by simp [aggOf, hu]
      exact ⟨p == p', by simpa [mkV, hA] using run_equalIn_bool' w (d + m) t p p' hu, by simp⟩
    · rename_i hu
      simp at h; obtain ⟨a, b, rfl, rfl, ⟨p, rfl⟩, ⟨p', rfl⟩⟩ := one _ h.symm
      have hA : aggOf P t = some false := by simp [aggOf, hu]
      refine ⟨p.toList == p'.toList, by simpa [mkV, hA] using run_equalIn_string w (d + m) t p p' hu, ?_⟩
      rw [beq_iff_eq, ByteArray.toList_eq, ByteArray.toList_eq]
      obtain ⟨⟨p⟩⟩ := p
      obtain ⟨⟨p'⟩⟩ := p'
      simp
    · rename_i n e hu
      split at h
      · rename_i l hl
        split at h
        · rename_i hs
          have hs' : sizOf P e = some l.length := by simpa using hs
          have hA : aggOf P t = some true := by simp [aggOf, hu]
          cases h
          obtain ⟨i, hi⟩ : ∃ i, P.info? e = some i := by
            unfold sizOf at hs'
            cases hi : P.info? e with
            | none => simp [hi] at hs'
            | some i => exact ⟨i, rfl⟩
          have := run_eqItemsV (run_equalV d m e l hl) hl hs' (cellsOf_of hs') w n 0 [] [] xs ys (by simp) (by simp) hx hy
          simpa [mkV, hA, run_equalIn_array w (d + m) _ _ hu hi, cellsOf_of hs', List.range_eq_range'] using this
        · cases h
      · cases h
    · rename_i fs hu
      split at h
      · cases h
      · rename_i hst
        have hA : aggOf P t = some true := by simp [aggOf, hu]
        have hfo : P.fieldsOf t = fs := by simp [Program.fieldsOf, hu]
        have := run_eqFieldsV (fun t ls h => run_equalV d m t ls h) w fs.toList 0 ls h [] [] xs ys rfl rfl hx hy
        simpa [mkV, hA, run_equalIn_struct w (d + m) t _ _ (by rw [hfo]; exact hu) (by simpa using hst), hfo] using this
    · cases h
end
section
variable {ro : Option Nat} {P : Program} {full : Array Oper} {Q : Exit → Act → World → Prop} {n : Nat} {d : List Deferred} {e : Env} {w : World}
variable {rest : List Oper} {ty : TypeId} {ps : String} {af : Array Edge}
/-- what is asked of a type whose values are held against each other -/
def eqOk (P : Program) (t : TypeId) (ls : List Lf) : Prop := shT P 8 t = some ls ∧ aggOf P t = some true ∧ P.eqGuardType P.depth t = false
theorem run_equal_ok {t : TypeId} {ls : List Lf} {xs ys : List Value} (hT : eqOk P t ls) (fx : fits ls xs) (fy : fits ls ys) {T : Bool} (h : T = true ↔ xs = ys) (w : World) : (Op.equal t (.agg xs.toArray) (.agg ys.toArray)).run P w = .ok T w := by
  obtain ⟨h1, h2, h3⟩ := hT
  obtain ⟨r, hr, hiff⟩ := run_equalV 9992 8 t ls h1 w xs ys fx fy
  have : r = T := by
    cases r <;> cases T <;> simp_all
  subst this
  simpa [mkV, h2, Op.equal, Op.maxDepth] using hr
theorem o_eqA {t yt i : Nat} {x y : Operand} {ls : List Lf} {xs ys : List Value} {T : Bool} (hx : evn n e x = .agg xs.toArray) (hy : evn n e y = .agg ys.toArray) (hT : eqOk P t ls) (fx : fits ls xs) (fy : fits ls ys) (hR : T = true ↔ xs = ys)
    (h : wpA ro P full Q rest (E n (upd e i (.bool T)) d) w) : wpA ro P full Q (⟨some i, .binOp .eql t x y yt, ty, ps, af, none⟩ :: rest) (E n e d) w := by
  refine op_val (v := .bool T) rfl (fun _ h => by cases h) ?_ h
  have hg := run_eqGuard_agg (P := P) w .eql t x y xs.toArray ys.toArray hT.2.2
  have he := run_equal_ok hT fx fy hR w
  simp only [execOp, hx, hy, Sem.run_bind, hg, Result.andThen_ok]
  simp [binOp, he]
theorem o_neA {t yt i : Nat} {x y : Operand} {ls : List Lf} {xs ys : List Value} {T : Bool} (hx : evn n e x = .agg xs.toArray) (hy : evn n e y = .agg ys.toArray) (hT : eqOk P t ls) (fx : fits ls xs) (fy : fits ls ys) (hR : T = true ↔ xs = ys)
    (h : wpA ro P full Q rest (E n (upd e i (.bool (!T))) d) w) : wpA ro P full Q (⟨some i, .binOp .neq t x y yt, ty, ps, af, none⟩ :: rest) (E n e d) w := by
  refine op_val (v := .bool (!T)) rfl (fun _ h => by cases h) ?_ h
  have hg := run_eqGuard_agg (P := P) w .neq t x y xs.toArray ys.toArray hT.2.2
  have he := run_equal_ok hT fx fy hR w
  simp only [execOp, hx, hy, Sem.run_bind, hg, Result.andThen_ok]
  simp [binOp, he]
theorem o_eqB {t yt i : Nat} {x y : Operand} {a b : Bool} (hx : evn n e x = .bool a) (hy : evn n e y = .bool b) (hT : P.underlying t = some .bool)
    (h : wpA ro P full Q rest (E n (upd e i (.bool (a == b))) d) w) : wpA ro P full Q (⟨some i, .binOp .eql t x y yt, ty, ps, af, none⟩ :: rest) (E n e d) w := by
  refine op_val (v := .bool (a == b)) rfl (fun _ h => by cases h) ?_ h
  have he := run_equal_bool (P := P) w t a b hT
  simp [execOp, hx, hy, eqGuard, binOp, he]
/-- arrays of numbers whose content is a list -/
def ivs (o : List Int) : List Value := o.map (Value.int .i64)
theorem ivs_inj {a b : List Int} : ivs a = ivs b ↔ a = b := by
  unfold ivs
  exact List.map_inj_right fun x y h => by injection h
theorem ivs_fits {k : Nat} {o : List Int} (h : o.length = k) : fits (List.replicate k (.int .i64)) (ivs o) := by subst h; exact fits_ints o
end
end Go.Fx
